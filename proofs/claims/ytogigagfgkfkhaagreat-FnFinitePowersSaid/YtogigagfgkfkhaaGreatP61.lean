import Derived.Test.YtogigagfgkfkhaaGreatP10
set_option linter.unusedVariables false
set_option linter.unusedSimpArgs false
/- Marks of automata that are handed back. -/
namespace Go.Proofs.YtogigagfgkfkhaaGreat
open Go Go.Proofs.YtogigagfgkfkhaaGreat.Am
end Go.Proofs.YtogigagfgkfkhaaGreat

/- Steps in order: what is put among them; the sort of steps. -/
namespace Go.Proofs.YtogigagfgkfkhaaGreat
open Go Go.Proofs.YtogigagfgkfkhaaGreat.Am
theorem y0m {α : Type} {l : List α} {i : Nat} (d : α) (hi : i < l.length) : l.getD i d = l[i] := by
 rw [List.getD_eq_getElem?_getD, List.getElem?_eq_getElem hi]
 rfl
theorem y6x (s t : Stp) : befB s t = ltS s t := by
 obtain ⟨r, h1, h2⟩ := y3n s t
 have h3 := y2w s t
 rw [h3] at h1
 obtain rfl := Option.some.inj h1
 unfold ltS
 cases hb : befB s t with
 | true =>
  rw [hb] at h2
  have := of_decide_eq_false h2
  exact (decide_eq_true (by omega)).symm
 | false =>
  rw [hb] at h2
  have := of_decide_eq_true h2
  exact (decide_eq_false (by omega)).symm
theorem z04 {a b c : Stp} (h : ltS a b = true) (k : ltS b c = true) : ltS a c = true := by
 have h := of_decide_eq_true h
 have k := of_decide_eq_true k
 have g1 := good_step.le a b c (by omega) (by omega)
 have g2 := good_step.eq a b c (by omega) (by omega)
 exact decide_eq_true (by omega)
theorem kd3 {a b : Stp} (h : ltS a b = true) : ltS b a = false := by
 have h := of_decide_eq_true h
 have g := good_step.anti a b
 exact decide_eq_false (by omega)
theorem same_of {a b : Stp} (h : ltS a b = false) (k : ltS b a = false) : y1v a b = 0 := by
 have h := of_decide_eq_false h
 have k := of_decide_eq_false k
 have g := good_step.anti a b
 omega
theorem zu1 {a b : Stp} (h : ltS a b = true) : y1v a b ≠ 0 := by
 have h := of_decide_eq_true h
 omega
/-- steps that stand in order, none twice -/
def Srt (l : List Stp) : Prop := l.Pairwise fun s t => ltS s t = true
def ins (x : Stp) : List Stp → List Stp
 | [] => [x]
 | s :: l => if ltS s x = true then s :: ins x l else if ltS x s = true then x :: s :: l else s :: l
theorem z2q {x y : Stp} : ∀ {l : List Stp}, y ∈ ins x l → y = x ∨ y ∈ l
 | [], h => .inl (List.mem_singleton.1 h)
 | s :: l, h => by
  unfold ins at h
  split at h
  ·rcases List.mem_cons.1 h with rfl | h
   ·exact .inr List.mem_cons_self
   ·exact (z2q h).imp id (List.mem_cons_of_mem _)
  ·split at h
   ·rcases List.mem_cons.1 h with rfl | h
    ·exact .inl rfl
    ·exact .inr h
   ·exact .inr h
theorem kd4 {x : Stp} : ∀ {l : List Stp}, Srt l → Srt (ins x l)
 | [], _ => List.pairwise_singleton _ _
 | s :: l, h => by
  obtain ⟨h1, h2⟩ := List.pairwise_cons.1 h
  unfold ins
  split
  ·rename_i hs
   refine List.pairwise_cons.2 ⟨fun y hy => ?_, kd4 h2⟩
   rcases z2q hy with rfl | hy
   ·exact hs
   ·exact h1 y hy
  ·split
   ·rename_i hx
    refine List.pairwise_cons.2 ⟨fun y hy => ?_, h⟩
    rcases List.mem_cons.1 hy with rfl | hy
    ·exact hx
    ·exact z04 hx (h1 y hy)
   ·exact h
theorem z4g {x : Stp} : ∀ {l : List Stp}, Srt l → (∃ s ∈ l, y1v s x = 0) → ins x l = l
 | [], _, ⟨_, h, _⟩ => by cases h
 | s :: l, h, ⟨t, ht, he⟩ => by
  obtain ⟨h1, h2⟩ := List.pairwise_cons.1 h
  unfold ins
  rcases List.mem_cons.1 ht with rfl | ht
  ·have a1 : ¬ ltS t x = true := fun hh => zu1 hh he
   have a2 : ¬ ltS x t = true := fun hh => by
    have := zu1 hh
    have g := good_step.anti t x
    omega
   rw [if_neg a1, if_neg a2]
  ·have hst := h1 t ht
   have hsx : ltS s x = true := by
    have b1 := of_decide_eq_true hst
    have g1 := good_step.le s t x (by omega) (by omega)
    have g2 := good_step.eq s t x (by omega) (by omega)
    exact decide_eq_true (by omega)
   rw [if_pos hsx, z4g h2 ⟨t, ht, he⟩]
theorem kd5 {x : Stp} : ∀ {l : List Stp}, (∀ s ∈ l, y1v s x ≠ 0) → (ins x l).Perm (x :: l)
 | [], _ => List.Perm.refl _
 | s :: l, h => by
  unfold ins
  split
  ·exact ((kd5 fun t ht => h t (List.mem_cons_of_mem _ ht)).cons s).trans (List.Perm.swap x s l)
  ·rename_i h1
   split
   ·exact List.Perm.refl _
   ·rename_i h2
    exact absurd (same_of (by simpa using h1) (by simpa using h2)) (h s List.mem_cons_self)
/-- where it is put: behind those before it -/
theorem kd6 {x : Stp} : ∀ (l : List Stp) (i : Nat), (∀ j, j < i → ltS (l.getD j stp0) x = true) → i ≤ l.length → (i < l.length → ltS (l.getD i stp0) x = false) →
  ins x l = if i < l.length ∧ ltS x (l.getD i stp0) = false then l else l.take i ++ x :: l.drop i
 | [], i, _, hi, _ => by
  have : i = 0 := by simpa using hi
  subst this
  rfl
 | s :: l, 0, _, _, h => by
  have h := h (by simp)
  have h : ltS s x = false := h
  unfold ins
  rw [if_neg (by rw [h]; simp)]
  show (if ltS x s = true then x :: s :: l else s :: l) = if 0 < (s :: l).length ∧ ltS x s = false then s :: l else x :: s :: l
  cases ltS x s <;> simp
 | s :: l, i + 1, hj, hi, h => by
  have h0 : ltS s x = true := hj 0 (by omega)
  have ih := kd6 (x := x) l i (fun j hjj => hj (j + 1) (by omega)) (by simpa using hi) (fun hl => h (by simpa using hl))
  unfold ins
  rw [if_pos h0, ih]
  simp only [List.length_cons, List.getD_cons_succ, Nat.add_lt_add_iff_right, List.take_succ_cons, List.drop_succ_cons, List.cons_append]
  split <;> rfl
/-- the reference puts a step that costs one among steps that cost nothing or one -/
theorem km8 {l : List Stp} (hl : l.length ≤ 100000000) (hc : ∀ s ∈ l, s.2.2.2 ≤ 1) (x y : Int) (z : ByteArray) : yt3 l (x, z, y, 1) = some (ins (x, z, y, 1) l) := by
 have g := yo5 (f := yi1) (fun i => (l, (x, z, y, (1 : Int), ()), (i : Int), ())) l.length (fun i => !ltS (l.getD i stp0) (x, z, y, 1)) (fun i => (l, (x, z, y, (1 : Int), ()), (i : Int), ())) (l, (x, z, y, (1 : Int), ()), ((l.length : Nat) : Int), ())
  (fun i hi => by
   simp only [yi1, lt_t hi, cond_true, if_pos (in_t hi), Int.toNat_natCast, yn7, y6x, Option.bind_some, ya4 hi (show l.length ≤ 9223372036854775807 by omega)]
   cases ltS (List.getD l i ((0 : Int), (⟨Array.empty⟩ : ByteArray), (0 : Int), (0 : Int))) (x, z, y, 1) <;> rfl)
  (by simp only [yi1, lt_f, cond_false])
 have g : ya2 yi1 (l, (x, z, y, (1 : Int), ()), (0 : Int), ()) = _ := g
 have put : ∀ i : Nat, i ≤ l.length → (((0 + 0) = (List.length ([] : List Unit))) ∧ ((0 + (List.length (List.take (i - 0) (List.drop 0 l)))) * 40 ≤ 140737488355328)) ∧
   ((0 + (0 + (List.length (List.take (i - 0) (List.drop 0 l)))) = List.length ((List.drop 0 ([] : List Stp)) ++ (List.take (i - 0) (List.drop 0 l)))) ∧ (((0 + (List.length (List.take (i - 0) (List.drop 0 l)))) + (List.length (List.take 1 (List.drop 0 [((x, z, y, (1 : Int)) : Stp)])))) * 40 ≤ 140737488355328)) ∧
   ((0 + ((0 + (List.length (List.take (i - 0) (List.drop 0 l)))) + (List.length (List.take 1 (List.drop 0 [((x, z, y, (1 : Int)) : Stp)])))) = List.length ((List.drop 0 ((List.drop 0 ([] : List Stp)) ++ (List.take (i - 0) (List.drop 0 l)))) ++ (List.take 1 (List.drop 0 [((x, z, y, (1 : Int)) : Stp)])))) ∧ ((((0 + (List.length (List.take (i - 0) (List.drop 0 l)))) + (List.length (List.take 1 (List.drop 0 [((x, z, y, (1 : Int)) : Stp)])))) + (List.length (List.take (l.length - i) (List.drop i l)))) * 40 ≤ 140737488355328)) ∧
   List.take (((0 + (List.length (List.take (i - 0) (List.drop 0 l)))) + (List.length (List.take 1 (List.drop 0 [((x, z, y, (1 : Int)) : Stp)])))) + (List.length (List.take (l.length - i) (List.drop i l)))) (List.drop 0 ((List.drop 0 ((List.drop 0 ((List.drop 0 ([] : List Stp)) ++ (List.take (i - 0) (List.drop 0 l)))) ++ (List.take 1 (List.drop 0 [((x, z, y, (1 : Int)) : Stp)])))) ++ (List.take (l.length - i) (List.drop i l)))) = l.take i ++ (x, z, y, 1) :: l.drop i := by
  intro i hi
  have e1 : List.take (i - 0) (List.drop 0 l) = l.take i := by simp
  have e2 : List.take (l.length - i) (List.drop i l) = l.drop i := List.take_of_length_le (by simp)
  have e3 : (l.take i).length = i := by rw [List.length_take]; omega
  have e4 : (l.drop i).length = l.length - i := List.length_drop
  rw [e1, e2]
  refine ⟨⟨rfl, by omega⟩, ⟨by simp, ?_⟩, ⟨by simp, ?_⟩, ?_⟩
  ·show (0 + (l.take i).length + 1) * 40 ≤ _
   omega
  ·show (0 + (l.take i).length + 1 + (l.drop i).length) * 40 ≤ _
   omega
  ·rw [List.take_of_length_le (by simp; omega)]
   simp
 cases hf : (List.range l.length).find? fun i => !ltS (l.getD i stp0) (x, z, y, 1) with
 | none =>
  rw [hf] at g
  have hall : ∀ j, j < l.length → ltS (l.getD j stp0) (x, z, y, 1) = true := fun j hj => by
   have := List.find?_eq_none.1 hf j (List.mem_range.2 hj)
   simpa using this
  rw [kd6 l l.length hall (Nat.le_refl _) (fun h => absurd h (Nat.lt_irrefl _)), if_neg (fun h => absurd h.1 (Nat.lt_irrefl _))]
  obtain ⟨p1, p2, p3, p4⟩ := put l.length (Nat.le_refl _)
  unfold yt3
  dsimp only
  rw [g]
  simp only [Option.bind_some, lt_f, cond_false, Int.toNat_natCast]
  rw [if_pos ⟨by omega, by omega⟩, if_pos p1, if_pos p2, if_pos ⟨by omega, by omega⟩, if_pos p3, p4]
 | some i =>
  rw [hf] at g
  have hi := List.mem_range.1 (List.mem_of_find?_eq_some hf)
  have hp : ltS (l.getD i stp0) (x, z, y, 1) = false := by
   have := List.find?_some hf
   simpa using this
  have hall : ∀ j, j < i → ltS (l.getD j stp0) (x, z, y, 1) = true := by
   intro j hj
   have := (List.find?_range_eq_some.1 hf).2.2 j hj
   simpa using this
  obtain ⟨p1, p2, p3, p4⟩ := put i (by omega)
  have hmem : l.getD i stp0 ∈ l := by rw [y0m stp0 hi]; exact List.getElem_mem hi
  have hcost := hc _ hmem
  have hins := kd6 l i hall (by omega) (fun _ => hp)
  cases hx : ltS (x, z, y, 1) (l.getD i stp0) with
  | false =>
   rw [if_pos ⟨hi, hx⟩] at hins
   rw [hins]
   have hx : ltS (x, z, y, 1) (List.getD l i ((0 : Int), (⟨Array.empty⟩ : ByteArray), (0 : Int), (0 : Int))) = false := hx
   have hset : l.set i (l.getD i stp0) = l := by
    rw [y0m stp0 hi]
    exact List.set_getElem_self hi
   have hcost : ¬ (1 : Int) < (List.getD l i ((0 : Int), (⟨Array.empty⟩ : ByteArray), (0 : Int), (0 : Int))).2.2.2 := by
    show ¬ (1 : Int) < (l.getD i stp0).2.2.2
    omega
   unfold yt3
   dsimp only
   rw [g]
   simp only [Option.bind_some, lt_t hi, cond_true, if_pos (in_t hi), Int.toNat_natCast, yn7, y6x, hx, Bool.not_false, cond_true, List.drop_zero, List.nil_append, Nat.zero_add, if_neg hcost]
   rw [if_pos ⟨rfl, by omega⟩]
   show some (List.take l.length (l.set i (l.getD i stp0))) = some l
   rw [hset, List.take_length]
  | true =>
   rw [if_neg (fun h => by rw [hx] at h; cases h.2)] at hins
   rw [hins]
   have hx : ltS (x, z, y, 1) (List.getD l i ((0 : Int), (⟨Array.empty⟩ : ByteArray), (0 : Int), (0 : Int))) = true := hx
   unfold yt3
   dsimp only
   rw [g]
   simp only [Option.bind_some, lt_t hi, cond_true, if_pos (in_t hi), Int.toNat_natCast, yn7, y6x, hx, Bool.not_true, cond_false]
   rw [if_pos ⟨by omega, by omega⟩, if_pos p1, if_pos p2, if_pos ⟨by omega, by omega⟩, if_pos p3, p4]
/-- the sort of steps of which none is there twice -/
theorem km9 {l m : List Stp} (hs : Srt m) (hp : l.Perm m) (hl : l.length < 4611686018427387904) : z0b l = some m := by
 have hex : ∃ ys, z0b l = some ys := by
  unfold z0b
  rw [if_pos hl]
  exact ⟨_, rfl⟩
 obtain ⟨ys, hy⟩ := hex
 obtain ⟨h1, h2, h3⟩ := zo1 hy
 obtain ⟨q1, _, q3⟩ := h2
 have e1 : (ys.toArray.extract 0 l.length).toList = ys := by
  rw [← h1]
  simp
 have e2 : (l.toArray.extract 0 l.length).toList = l := by simp
 rw [e1, e2] at q3
 have hperm : ys.Perm m := q3.trans hp
 have hd : m.Pairwise fun s t => y1v s t ≠ 0 := hs.imp fun h => zu1 h
 have hd2 : ys.Pairwise fun s t => y1v s t ≠ 0 := by
  refine (hperm.pairwise_iff ?_).2 hd
  intro a b hab
  have g := good_step.anti a b
  omega
 have hsr : ys.Pairwise fun s t => ltS s t = true := by
  rw [List.pairwise_iff_getElem] at hd2 ⊢
  intro i j hi hj hij
  have h4 := h3 i j (Nat.zero_le _) hij (by omega)
  have f1 : ys.toArray[j]! = ys[j] := by rw [getElem!_pos ys.toArray j (by simpa using hj)]; rfl
  have f2 : ys.toArray[i]! = ys[i] := by rw [getElem!_pos ys.toArray i (by simpa using hi)]; rfl
  rw [f1, f2] at h4
  have h5 := hd2 i j hi hj hij
  have h6 := of_decide_eq_false h4
  have g := good_step.anti ys[i] ys[j]
  exact decide_eq_true (by omega)
 have : ys = m := by
  refine List.Perm.eq_of_pairwise (le := fun s t => ltS s t = true) ?_ hsr hs hperm
  intro a b _ _ h5 h6
  rw [kd3 h5] at h6
  cases h6
 rw [hy, this]
end Go.Proofs.YtogigagfgkfkhaaGreat

/- The automaton of factors: both sides make the same. -/
namespace Go.Proofs.YtogigagfgkfkhaaGreat
open Go Go.Proofs.YtogigagfgkfkhaaGreat.Am
theorem z05 {R : Type} {x y z : Option R} {r : R} (hy : y = some r) (hx : x = some r ∨ (x ≠ some r ∧ z = some r)) : zm0 x y z = some r := by
 unfold zm0
 rcases hx with hx | ⟨hx, hz⟩
 ·rw [if_pos (by rw [hx, hy]), hx]
 ·rw [if_neg (by rw [hy]; exact hx), hz]
theorem z4h {x : List Int} (h : x.length ≤ 1000000000) : y0k x = some x := by
 have hB : (if (((0 + 0) = (List.length ([] : List Unit))) ∧ (((0 + (List.length x)) * 8) ≤ 140737488355328)) then some (List.take (0 + (List.length x)) (List.drop 0 ((List.drop 0 []) ++ x))) else none) = some x := by
  rw [if_pos ⟨rfl, by omega⟩]
  simp
 unfold y0k
 refine z05 hB ?_
 cases x with
 | nil => exact .inl rfl
 | cons a l => exact .inr ⟨by simp, hB⟩
theorem z5z {x : List Stp} (h : x.length ≤ 1000000000) : yt4 x = some x := by
 have hB : (if (((0 + 0) = (List.length ([] : List Unit))) ∧ (((0 + (List.length x)) * 40) ≤ 140737488355328)) then some (List.take (0 + (List.length x)) (List.drop 0 ((List.drop 0 []) ++ x))) else none) = some x := by
  rw [if_pos ⟨rfl, by omega⟩]
  simp
 unfold yt4
 refine z05 hB ?_
 cases x with
 | nil => exact .inl rfl
 | cons a l => exact .inr ⟨by simp, hB⟩
/-! ### what stands in order -/
theorem z4i {n : Int} {l : List Int} (h : yr0 n l = true) : ∀ (d i : Nat), i + d + 1 < l.length → l.getD i 0 < l.getD (i + d + 1) 0
 | 0, i, hi => by
  have := List.all_eq_true.1 h (i + 1) (List.mem_range.2 hi)
  unfold y59 at this
  simp at this
  exact this.2
 | d + 1, i, hi => by
  have h1 := z4i h d i (by omega)
  have := List.all_eq_true.1 h (i + d + 1 + 1) (List.mem_range.2 (by omega))
  unfold y59 at this
  simp at this
  have h2 := this.2
  show l.getD i 0 < l.getD (i + d + 1 + 1) 0
  rw [List.getD_eq_getElem?_getD, List.getD_eq_getElem?_getD] at h1 ⊢
  omega
theorem z52 {n : Int} {l : List Int} (h : yr0 n l = true) : l.Pairwise fun a b => decide (a ≤ b) = true := by
 rw [List.pairwise_iff_getElem]
 intro i j hi hj hij
 have := z4i h (j - i - 1) i (by omega)
 rw [show i + (j - i - 1) + 1 = j by omega, y0m 0 hi, y0m 0 hj] at this
 exact decide_eq_true (by omega)
theorem zp3 {n : Int} {l : List Int} (h : yr0 n l = true) (hl : l.length ≤ 1048576) : y1w l = some ((), (l, ())) := by
 unfold y1w sortI
 rw [if_pos (by omega), List.mergeSort_of_pairwise (z52 h)]
 rfl
theorem z4j {n : Int} {l : List Stp} (h : y0x n l = true) : ∀ (d i : Nat), i + d + 1 < l.length → ltS (l.getD i stp0) (l.getD (i + d + 1) stp0) = true
 | 0, i, hi => by
  have := List.all_eq_true.1 h (i + 1) (List.mem_range.2 hi)
  unfold y45 at this
  rw [Bool.and_eq_true] at this
  have := this.2
  rw [decide_eq_false (by omega), Bool.false_or, y6x] at this
  exact this
 | d + 1, i, hi => by
  have h1 := z4j h d i (by omega)
  have := List.all_eq_true.1 h (i + d + 1 + 1) (List.mem_range.2 (by omega))
  unfold y45 at this
  rw [Bool.and_eq_true] at this
  have := this.2
  rw [decide_eq_false (by omega), Bool.false_or, y6x] at this
  exact z04 h1 this
theorem z06 {n : Int} {l : List Stp} (h : y0x n l = true) : Srt l := by
 unfold Srt
 rw [List.pairwise_iff_getElem]
 intro i j hi hj hij
 have := z4j h (j - i - 1) i (by omega)
 rwa [show i + (j - i - 1) + 1 = j by omega, y0m stp0 hi, y0m stp0 hj] at this
/-- what the program makes of steps, wherever they stand -/
theorem kd7 {x : Int} {S F : List Int} {l m : List Stp} (hS : yr0 x S = true) (hF : yr0 x F = true) (hs : Srt m) (hp : l.Perm m) (sS : S.length ≤ 1048576) (sF : F.length ≤ 1048576) (sl : l.length ≤ 100000000) :
  y7s x S F l = some (if yk4 (x, S, F, m) = true then ((x, S, F, m), true) else (((0 : Int), [], [], []), false)) := by
 have hV := yb9 (x, S, F, m) (show S.length ≤ _ by omega) (show F.length ≤ _ by omega)
 have hsort : yx4 l = some ((), (m, ())) := by
  unfold yx4
  rw [km9 hs hp (by omega)]
  rfl
 have hlm : l.length = m.length := hp.length_eq
 unfold y7s
 rw [z4h (by omega)]
 simp only [Option.bind_some]
 rw [z4h (by omega)]
 simp only [Option.bind_some]
 rw [z5z (by omega)]
 simp only [Option.bind_some, if_true]
 rw [zp3 hS sS]
 simp only [Option.bind_some]
 rw [zp3 hF sF]
 simp only [Option.bind_some]
 rw [hsort]
 simp only [Option.bind_some, hlm, List.drop_zero, List.take_length, hV]
 cases yk4 (x, S, F, m) <;> rfl
/-! ### the loops -/
theorem zu2 {α : Type} (d : α) (l : List α) (p : α → Bool) : (match (List.range l.length).find? fun i => p (l.getD i d) with | some _ => true | none => false) = l.any p := by
 cases hf : (List.range l.length).find? fun i => p (l.getD i d) with
 | none =>
  have := List.find?_eq_none.1 hf
  symm
  rw [List.any_eq_false]
  intro x hx
  obtain ⟨i, hi, rfl⟩ := List.getElem_of_mem hx
  have := this i (List.mem_range.2 hi)
  rwa [y0m d hi] at this
 | some i =>
  have hi := List.mem_range.1 (List.mem_of_find?_eq_some hf)
  have hp := List.find?_some (p := fun i => p (l.getD i d)) hf
  symm
  rw [List.any_eq_true]
  exact ⟨l.getD i d, by rw [y0m d hi]; exact List.getElem_mem hi, hp⟩
theorem zj9 {l : List Stp} (hl : l.length ≤ 1000000000) {φ : (Stp × Unit) → Option Bool} {p : Stp → Bool} (hφ : ∀ s ∈ l, φ (s, ()) = some (p s)) : yk7 l φ = some (l.any p) := by
 have g := yo5 (f := yd9) (fun i => (l, φ, (l.length : Int), (i : Int), ())) l.length (fun i => p (l.getD i stp0)) (fun i => Sum.inl ((i : Int), ())) (Sum.inr ())
  (fun i hi => by
   have hm : l.getD i stp0 ∈ l := by rw [y0m stp0 hi]; exact List.getElem_mem hi
   have hp := hφ _ hm
   simp only [yd9, lt_t hi, cond_true, if_pos (in_t hi), Int.toNat_natCast, hp, Option.bind_some, ya4 hi (show l.length ≤ 9223372036854775807 by omega)]
   cases p (l.getD i stp0) <;> rfl)
  (by simp only [yd9, lt_f, cond_false])
 have g : ya2 yd9 (l, φ, (l.length : Int), (0 : Int), ()) = _ := g
 have ha := zu2 stp0 l p
 simp only [yk7, ys5, g, Option.bind_some]
 rw [← ha]
 cases (List.range l.length).find? fun i => p (l.getD i stp0) with
 | none => rfl
 | some i =>
  simp only [Option.bind_some]
  rw [decide_eq_true (by omega)]
theorem z07 {l : List Int} (hl : l.length ≤ 1000000000) (q : Int) : ys4 l q = some (l.any fun e => q == e) := by
 have g := yo5 (f := ym6) (fun i => (l, q, (l.length : Int), (i : Int), ())) l.length (fun i => q == l.getD i 0) (fun i => Sum.inl ((i : Int), ())) (Sum.inr ())
  (fun i hi => by
   simp only [ym6, lt_t hi, cond_true, if_pos (in_t hi), Int.toNat_natCast, ya4 hi (show l.length ≤ 9223372036854775807 by omega)]
   cases q == l.getD i 0 <;> rfl)
  (by simp only [ym6, lt_f, cond_false])
 have g : ya2 ym6 (l, q, (l.length : Int), (0 : Int), ()) = _ := g
 have ha := zu2 0 l fun e => q == e
 simp only [ys4, y4w, g, Option.bind_some]
 rw [← ha]
 cases (List.range l.length).find? fun i => q == l.getD i 0 with
 | none => rfl
 | some i =>
  simp only [Option.bind_some]
  rw [decide_eq_true (by omega)]
theorem l4In_is {l : List Int} (hl : l.length ≤ 1000000000) (q : Int) : y40 l q = some (l.any fun e => q == e) := by
 have g := yo5 (f := ys8) (fun i => (q, l, (l.length : Int), (i : Int), ())) l.length (fun i => q == l.getD i 0) (fun i => Sum.inl (true, ())) (Sum.inr ())
  (fun i hi => by
   simp only [ys8, lt_t hi, cond_true, if_pos (in_t hi), Int.toNat_natCast, ya4 hi (show l.length ≤ 9223372036854775807 by omega)]
   rw [BEq.comm (a := l.getD i 0)]
   cases q == l.getD i 0 <;> rfl)
  (by simp only [ys8, lt_f, cond_false])
 have g : ya2 ys8 (q, l, (l.length : Int), (0 : Int), ()) = _ := g
 have ha := zu2 0 l fun e => q == e
 simp only [y40, g, Option.bind_some]
 rw [← ha]
 cases (List.range l.length).find? fun i => q == l.getD i 0 <;> rfl
def zs (s : Stp) : Stp := (s.1, s.2.1, s.2.2.1, 0)
theorem zp4 {l : List Stp} (hl : l.length ≤ 1048576) {φ : (Stp × Unit) → Option Stp} {z : Stp → Stp} (hφ : ∀ s, φ (s, ()) = some (z s)) : y2j l φ = some (l.map z) := by
 obtain ⟨r, g1, g2⟩ := yg3 (f := ym5) l.length (fun i (o : List Stp) => (φ, o, l, (l.length : Int), (i : Int), ())) (fun i o => o ++ [z (l.getD i stp0)]) (fun o => (o, ())) (fun i o => o = (l.take i).map z)
  (fun i o hi ho => by rw [ho, yk5 hi, List.map_append, y0m stp0 hi]; rfl)
  (fun i o hi ho => by
   have hol : o.length = i := by rw [ho, List.length_map, List.length_take]; omega
   have hp := hφ (l.getD i stp0)
   have hp : φ (((l.getD i stp0).1, (l.getD i stp0).2.1, (l.getD i stp0).2.2.1, (l.getD i stp0).2.2.2), ()) = some ((z (l.getD i stp0)).1, (z (l.getD i stp0)).2.1, (z (l.getD i stp0)).2.2.1, (z (l.getD i stp0)).2.2.2) := hp
   have e : List.take 1 (List.drop 0 [z (l.getD i stp0)]) = [z (l.getD i stp0)] := rfl
   simp only [ym5, lt_t hi, cond_true, if_pos (in_t hi), Int.toNat_natCast, hp, Option.bind_some]
   show (if 0 + o.length = o.length ∧ (o.length + (List.take 1 (List.drop 0 [z (l.getD i stp0)])).length) * 40 ≤ 140737488355328 then some (Sum.inl (φ, List.take (o.length + (List.take 1 (List.drop 0 [z (l.getD i stp0)])).length) (List.drop 0 (List.drop 0 o ++ List.take 1 (List.drop 0 [z (l.getD i stp0)]))), l, (l.length : Int), IntKind.wrap .i64 ((i : Int) + 1), ())) else none) = _
   rw [e, if_pos ⟨by omega, by show (o.length + 1) * 40 ≤ _; omega⟩, ya4 hi (by omega)]
   simp only [List.drop_zero]
   rw [List.take_of_length_le (by simp)])
  (fun o ho => by simp only [ym5, lt_f, cond_false, List.drop_zero, List.take_length])
  [] rfl
 have g1 : ya2 ym5 (φ, [], l, (l.length : Int), (0 : Int), ()) = some (r, ()) := g1
 simp only [y2j, List.take_zero, g1, Option.bind_some, List.drop_zero, List.take_length]
 rw [g2, List.take_length]
/-! ### what is put -/
def cand (s : Stp) (f : Int) : Stp := (f, s.2.1, s.2.2.1, 1)
def addI (I : List Stp) (x : Stp) : List Stp := if (I.any fun s => y1v s x == 0) = true then I else I ++ [x]
def has1 (S : List Int) (s : Stp) : Bool := S.any fun e => s.1 == e
def rowI (S : List Int) (s : Stp) (I : List Stp) (F : List Int) : List Stp := F.foldl (fun I f => bif has1 S s then addI I (cand s f) else I) I
def rowP (S : List Int) (s : Stp) (I : List Stp) (F : List Int) : List Stp := F.foldl (fun I f => bif has1 S s then ins (cand s f) I else I) I
def allI (S F : List Int) (I : List Stp) (l : List Stp) : List Stp := l.foldl (fun I s => rowI S s I F) I
def allP (S F : List Int) (I : List Stp) (l : List Stp) : List Stp := l.foldl (fun I s => rowP S s I F) I
structure IP (I P : List Stp) : Prop where
 perm : I.Perm P
 srt : Srt P
 cost : ∀ s ∈ P, s.2.2.2 ≤ 1
theorem IP.put {I P : List Stp} (h : IP I P) (s : Stp) (f : Int) : IP (addI I (cand s f)) (ins (cand s f) P) := by
 have hc : ∀ t ∈ ins (cand s f) P, t.2.2.2 ≤ 1 := by
  intro t ht
  rcases z2q ht with rfl | ht
  ·exact Int.le_refl _
  ·exact h.cost t ht
 unfold addI
 cases ha : I.any fun t => y1v t (cand s f) == 0 with
 | true =>
  rw [if_pos rfl]
  obtain ⟨t, ht, he⟩ := List.any_eq_true.1 ha
  have he : y1v t (cand s f) = 0 := by simpa using he
  rw [z4g h.srt ⟨t, h.perm.mem_iff.1 ht, he⟩]
  exact h
 | false =>
  rw [if_neg (by simp)]
  have hn : ∀ t ∈ P, y1v t (cand s f) ≠ 0 := by
   intro t ht he
   have := List.any_eq_false.1 ha t (h.perm.mem_iff.2 ht)
   simp [he] at this
  refine ⟨?_, kd4 h.srt, hc⟩
  exact (List.perm_append_singleton _ _).trans ((h.perm.cons _).trans (kd5 hn).symm)
theorem IP.row {S : List Int} {s : Stp} : ∀ {F : List Int} {I P : List Stp}, IP I P → IP (rowI S s I F) (rowP S s P F)
 | [], _, _, h => h
 | f :: F, I, P, h => by
  show IP (rowI S s (bif has1 S s then addI I (cand s f) else I) F) (rowP S s (bif has1 S s then ins (cand s f) P else P) F)
  cases has1 S s with
  | true => exact IP.row (h.put s f)
  | false => exact IP.row h
theorem IP.all {S F : List Int} : ∀ {l : List Stp} {I P : List Stp}, IP I P → IP (allI S F I l) (allP S F P l)
 | [], _, _, h => h
 | s :: l, I, P, h => IP.all (l := l) (h.row (S := S) (s := s) (F := F))
theorem kn0 (I : List Stp) (x : Stp) : (addI I x).length ≤ I.length + 1 := by
 unfold addI
 split <;> simp
theorem z08 {S : List Int} {s : Stp} {I : List Stp} {F : List Int} {k : Nat} (hk : k < F.length) : rowI S s I (F.take (k + 1)) = bif has1 S s then addI (rowI S s I (F.take k)) (cand s (F.getD k 0)) else rowI S s I (F.take k) := by
 unfold rowI
 rw [yk5 hk, List.foldl_append, y0m 0 hk]
 rfl
theorem kd8 {S : List Int} {s : Stp} {I : List Stp} {F : List Int} {k : Nat} (hk : k < F.length) : rowP S s I (F.take (k + 1)) = bif has1 S s then ins (cand s (F.getD k 0)) (rowP S s I (F.take k)) else rowP S s I (F.take k) := by
 unfold rowP
 rw [yk5 hk, List.foldl_append, y0m 0 hk]
 rfl
theorem zb3 {S : List Int} {s : Stp} {I : List Stp} (F : List Int) : ∀ k, k ≤ F.length → (rowI S s I (F.take k)).length ≤ I.length + k
 | 0, _ => by simp [rowI]
 | k + 1, hk => by
  have ih := zb3 (S := S) (s := s) (I := I) F k (by omega)
  rw [z08 (by omega)]
  cases has1 S s with
  | true =>
   have := kn0 (rowI S s I (F.take k)) (cand s (F.getD k 0))
   show (addI _ _).length ≤ _
   omega
  | false =>
   show (rowI S s I (F.take k)).length ≤ _
   omega
theorem kn1 {x : Int} {S F : List Int} {l : List Stp} (sS : S.length ≤ 1048576) (sF : F.length ≤ 1048576) (I : List Stp) (hI : I.length ≤ 50000000) (s : Stp) (i : Nat) :
  ya2 yc8 ((x, S, F, l, ()), ((0 : Int), [], [], [], ()), I, (s.1, s.2.1, s.2.2.1, s.2.2.2, ()), l, ((l.length : Nat) : Int), (i : Int), F, ((F.length : Nat) : Int), (0 : Int), ()) = some ((x, S, F, l, ()), ((0 : Int), [], [], [], ()), rowI S s I F, l, ((l.length : Nat) : Int), (i : Int), ()) := by
 obtain ⟨r, g1, g2⟩ := yg3 (f := yc8) F.length (fun k (o : List Stp) => ((x, S, F, l, ()), ((0 : Int), [], [], [], ()), o, (s.1, s.2.1, s.2.2.1, s.2.2.2, ()), l, ((l.length : Nat) : Int), (i : Int), F, ((F.length : Nat) : Int), (k : Int), ()))
  (fun k o => bif has1 S s then addI o (cand s (F.getD k 0)) else o) (fun o => ((x, S, F, l, ()), ((0 : Int), [], [], [], ()), o, l, ((l.length : Nat) : Int), (i : Int), ())) (fun k o => o = rowI S s I (F.take k))
  (fun k o hk ho => by rw [ho, z08 hk])
  (fun k o hk ho => by
   have hol : o.length ≤ I.length + k := by rw [ho]; exact zb3 F k (by omega)
   have hc := z07 (l := S) (by omega) s.1
   have hc : ys4 S s.1 = some (has1 S s) := hc
   simp only [yc8, lt_t hk, cond_true, if_pos (in_t hk), Int.toNat_natCast, hc, Option.bind_some, ya4 hk (show F.length ≤ 9223372036854775807 by omega)]
   cases has1 S s with
   | false => simp only [cond_false, List.drop_zero, List.take_length, List.length_nil, List.take_zero]
   | true =>
    have hf := zj9 (l := o) (by omega) (φ := fun y1 => yo0 y1.1 (F.getD k 0, s.2.1, s.2.2.1, (1 : Int))) (p := fun t => y1v t (cand s (F.getD k 0)) == 0) (fun t _ => by
     obtain ⟨t1, t2, t3, t4⟩ := t
     simp only [yo0]
     rw [y2w]
     rfl)
    simp only [cond_true, List.drop_zero, List.take_length]
    rw [hf]
    simp only [Option.bind_some]
    unfold addI
    cases o.any fun t => y1v t (cand s (F.getD k 0)) == 0 with
    | true => simp only [Bool.not_true, cond_false, if_true, List.length_nil, List.take_nil]
    | false =>
     have e : List.take 1 [((F.getD k 0, s.2.1, s.2.2.1, (1 : Int)) : Stp)] = [(F.getD k 0, s.2.1, s.2.2.1, (1 : Int))] := rfl
     simp only [Bool.not_false, cond_true, e, Bool.false_eq_true, if_false, List.length_nil, List.take_nil]
     rw [if_pos ⟨by omega, by show (o.length + 1) * 40 ≤ _; omega⟩]
     rw [List.take_of_length_le (by simp)]
     rfl)
  (fun o ho => by simp only [yc8, lt_f, cond_false, List.drop_zero, List.take_length, List.length_nil, List.take_nil])
  I (by simp [rowI])
 have g1 : ya2 yc8 ((x, S, F, l, ()), ((0 : Int), [], [], [], ()), I, (s.1, s.2.1, s.2.2.1, s.2.2.2, ()), l, ((l.length : Nat) : Int), (i : Int), F, ((F.length : Nat) : Int), (0 : Int), ()) = _ := g1
 rw [g1, g2, List.take_length]
theorem z09 {S F : List Int} {I l : List Stp} {k : Nat} (hk : k < l.length) : allI S F I (l.take (k + 1)) = rowI S (l.getD k stp0) (allI S F I (l.take k)) F := by
 unfold allI
 rw [yk5 hk, List.foldl_append, y0m stp0 hk]
 rfl
theorem kd9 {S F : List Int} {I l : List Stp} {k : Nat} (hk : k < l.length) : allP S F I (l.take (k + 1)) = rowP S (l.getD k stp0) (allP S F I (l.take k)) F := by
 unfold allP
 rw [yk5 hk, List.foldl_append, y0m stp0 hk]
 rfl
theorem y77 {S F : List Int} {I : List Stp} (l : List Stp) : ∀ k, k ≤ l.length → (allI S F I (l.take k)).length ≤ I.length + k * F.length
 | 0, _ => by simp [allI]
 | k + 1, hk => by
  have ih := y77 (S := S) (F := F) (I := I) l k (by omega)
  rw [z09 (by omega)]
  have := zb3 (S := S) (s := l.getD k stp0) (I := allI S F I (l.take k)) F F.length (Nat.le_refl _)
  rw [List.take_length] at this
  rw [Nat.add_mul, Nat.one_mul]
  omega
end Go.Proofs.YtogigagfgkfkhaaGreat

/- The automaton of factors, on: both sides make the same; its law. -/
namespace Go.Proofs.YtogigagfgkfkhaaGreat
open Go Go.Proofs.YtogigagfgkfkhaaGreat.Am
theorem z4k {x : Int} {S F : List Int} {l : List Stp} (sS : S.length ≤ 1048576) (sF : F.length ≤ 1048576) (sl : l.length ≤ 24) (I : List Stp) (hI : I.length ≤ 24) :
  ya2 yd5 ((x, S, F, l, ()), ((0 : Int), [], [], [], ()), I, l, ((l.length : Nat) : Int), (0 : Int), ()) = some ((x, S, F, l, ()), ((0 : Int), [], [], [], ()), allI S F I l, ()) := by
 obtain ⟨r, g1, g2⟩ := yg3 (f := yd5) l.length (fun i (o : List Stp) => ((x, S, F, l, ()), ((0 : Int), [], [], [], ()), o, l, ((l.length : Nat) : Int), (i : Int), ()))
  (fun i o => rowI S (l.getD i stp0) o F) (fun o => ((x, S, F, l, ()), ((0 : Int), [], [], [], ()), o, ())) (fun i o => o = allI S F I (l.take i))
  (fun i o hi ho => by rw [ho, z09 hi])
  (fun i o hi ho => by
   have hol : o.length ≤ I.length + i * F.length := by rw [ho]; exact y77 l i (by omega)
   have hm : i * F.length ≤ 24 * 1048576 := Nat.mul_le_mul (by omega) sF
   have hr := kn1 (x := x) (S := S) (F := F) (l := l) sS sF o (by omega) (l.getD i stp0) i
   have hr : ya2 yc8 ((x, S, F, l, ()), ((0 : Int), [], [], [], ()), o, ((List.getD l i ((0 : Int), (⟨Array.empty⟩ : ByteArray), (0 : Int), (0 : Int))).1, (List.getD l i ((0 : Int), (⟨Array.empty⟩ : ByteArray), (0 : Int), (0 : Int))).2.1, (List.getD l i ((0 : Int), (⟨Array.empty⟩ : ByteArray), (0 : Int), (0 : Int))).2.2.1, (List.getD l i ((0 : Int), (⟨Array.empty⟩ : ByteArray), (0 : Int), (0 : Int))).2.2.2, ()), l, ((l.length : Nat) : Int), (i : Int), F, ((F.length : Nat) : Int), (0 : Int), ()) = _ := hr
   simp only [yd5, lt_t hi, cond_true, if_pos (in_t hi), Int.toNat_natCast, List.drop_zero, List.take_length, List.length_nil, List.take_nil]
   rw [hr]
   simp only [Option.bind_some, List.drop_zero, List.take_length, List.length_nil, List.take_nil, ya4 hi (show l.length ≤ 9223372036854775807 by omega)])
  (fun o ho => by simp only [yd5, lt_f, cond_false, List.drop_zero, List.take_length, List.length_nil, List.take_nil])
  I (by simp [allI])
 have g1 : ya2 yd5 ((x, S, F, l, ()), ((0 : Int), [], [], [], ()), I, l, ((l.length : Nat) : Int), (0 : Int), ()) = _ := g1
 rw [g1, g2, List.take_length]
theorem kn2 {x : Int} {S F : List Int} {l : List Stp} (sS : S.length ≤ 1048576) (sF : F.length ≤ 1048576) {I P : List Stp} (hI : I.length ≤ 50000000) (h : IP I P) (s : Stp) (L : List Stp) (i : Nat) :
  ya2 yc3 ((x, S, F, l, ()), ((0 : Int), [], [], [], ()), (x, S, F, P, ()), (s.1, s.2.1, s.2.2.1, s.2.2.2, ()), L, ((L.length : Nat) : Int), (i : Int), F, ((F.length : Nat) : Int), (0 : Int), ()) = some ((x, S, F, l, ()), ((0 : Int), [], [], [], ()), (x, S, F, rowP S s P F, ()), L, ((L.length : Nat) : Int), (i : Int), ()) := by
 obtain ⟨r, g1, g2⟩ := yg3 (f := yc3) F.length (fun k (o : List Stp) => ((x, S, F, l, ()), ((0 : Int), [], [], [], ()), (x, S, F, o, ()), (s.1, s.2.1, s.2.2.1, s.2.2.2, ()), L, ((L.length : Nat) : Int), (i : Int), F, ((F.length : Nat) : Int), (k : Int), ()))
  (fun k o => bif has1 S s then ins (cand s (F.getD k 0)) o else o) (fun o => ((x, S, F, l, ()), ((0 : Int), [], [], [], ()), (x, S, F, o, ()), L, ((L.length : Nat) : Int), (i : Int), ())) (fun k o => o = rowP S s P (F.take k))
  (fun k o hk ho => by rw [ho, kd8 hk])
  (fun k o hk ho => by
   have hip : IP (rowI S s I (F.take k)) o := by rw [ho]; exact h.row
   have hol : o.length ≤ I.length + k := by rw [← hip.perm.length_eq]; exact zb3 F k (by omega)
   have hc := l4In_is (l := S) (by omega) s.1
   have hc : y40 S s.1 = some (has1 S s) := hc
   simp only [yc3, lt_t hk, cond_true, if_pos (in_t hk), Int.toNat_natCast, hc, Option.bind_some, ya4 hk (show F.length ≤ 9223372036854775807 by omega)]
   cases has1 S s with
   | false => simp only [cond_false, List.drop_zero, List.take_length, List.length_nil, List.take_nil]
   | true =>
    have hp := km8 (l := o) (by omega) hip.cost (F.getD k 0) s.2.2.1 s.2.1
    simp only [cond_true, List.drop_zero, List.take_length]
    rw [hp]
    simp only [Option.bind_some, List.drop_zero, List.take_length, List.length_nil, List.take_nil]
    rfl)
  (fun o ho => by simp only [yc3, lt_f, cond_false, List.drop_zero, List.take_length, List.length_nil, List.take_nil])
  P (by simp [rowP])
 have g1 : ya2 yc3 ((x, S, F, l, ()), ((0 : Int), [], [], [], ()), (x, S, F, P, ()), (s.1, s.2.1, s.2.2.1, s.2.2.2, ()), L, ((L.length : Nat) : Int), (i : Int), F, ((F.length : Nat) : Int), (0 : Int), ()) = _ := g1
 rw [g1, g2, List.take_length]
theorem z4l {x : Int} {S F : List Int} {l : List Stp} (sS : S.length ≤ 1048576) (sF : F.length ≤ 1048576) {L : List Stp} (sl : L.length ≤ 24) {I P : List Stp} (hI : I.length ≤ 24) (h : IP I P) :
  ya2 yd7 ((x, S, F, l, ()), ((0 : Int), [], [], [], ()), (x, S, F, P, ()), L, ((L.length : Nat) : Int), (0 : Int), ()) = some (((0 : Int), [], [], [], ()), (x, S, F, allP S F P L, ()), ()) := by
 obtain ⟨r, g1, g2⟩ := yg3 (f := yd7) L.length (fun i (o : List Stp) => ((x, S, F, l, ()), ((0 : Int), [], [], [], ()), (x, S, F, o, ()), L, ((L.length : Nat) : Int), (i : Int), ()))
  (fun i o => rowP S (L.getD i stp0) o F) (fun o => (((0 : Int), [], [], [], ()), (x, S, F, o, ()), ())) (fun i o => o = allP S F P (L.take i))
  (fun i o hi ho => by rw [ho, kd9 hi])
  (fun i o hi ho => by
   have hip : IP (allI S F I (L.take i)) o := by rw [ho]; exact h.all
   have hol : (allI S F I (L.take i)).length ≤ I.length + i * F.length := y77 L i (by omega)
   have hm : i * F.length ≤ 24 * 1048576 := Nat.mul_le_mul (by omega) sF
   have hr := kn2 (x := x) (S := S) (F := F) (l := l) sS sF (by omega) hip (L.getD i stp0) L i
   have hr : ya2 yc3 ((x, S, F, l, ()), ((0 : Int), [], [], [], ()), (x, S, F, o, ()), ((List.getD L i ((0 : Int), (⟨Array.empty⟩ : ByteArray), (0 : Int), (0 : Int))).1, (List.getD L i ((0 : Int), (⟨Array.empty⟩ : ByteArray), (0 : Int), (0 : Int))).2.1, (List.getD L i ((0 : Int), (⟨Array.empty⟩ : ByteArray), (0 : Int), (0 : Int))).2.2.1, (List.getD L i ((0 : Int), (⟨Array.empty⟩ : ByteArray), (0 : Int), (0 : Int))).2.2.2, ()), L, ((L.length : Nat) : Int), (i : Int), F, ((F.length : Nat) : Int), (0 : Int), ()) = _ := hr
   simp only [yd7, lt_t hi, cond_true, if_pos (in_t hi), Int.toNat_natCast, List.drop_zero, List.take_length, List.length_nil, List.take_nil]
   rw [hr]
   simp only [Option.bind_some, List.drop_zero, List.take_length, List.length_nil, List.take_nil, ya4 hi (show L.length ≤ 9223372036854775807 by omega)])
  (fun o ho => by simp only [yd7, lt_f, cond_false, List.drop_zero, List.take_length, List.length_nil, List.take_nil])
  P (by simp [allP])
 have g1 : ya2 yd7 ((x, S, F, l, ()), ((0 : Int), [], [], [], ()), (x, S, F, P, ()), L, ((L.length : Nat) : Int), (0 : Int), ()) = _ := g1
 rw [g1, g2, List.take_length]
/-! ### costs put to nothing -/
theorem ke0 {n : Int} {s : Stp} (h : y4c n s = true) : y4c n (zs s) = true := by
 unfold y4c at h ⊢
 simp only [Bool.and_eq_true] at h ⊢
 exact ⟨h.1, h.2.1, rfl, h.2.2.2⟩
theorem z1a {l : List Stp} {i : Nat} (hi : i < l.length) : (l.map zs).getD i stp0 = zs (l.getD i stp0) := by
 rw [y0m stp0 (show i < (l.map zs).length by simpa using hi), y0m stp0 hi]
 simp
theorem y9d {n : Int} {l : List Stp} (h : y0x n l = true) : y0x n (l.map zs) = true := by
 unfold y0x at h ⊢
 rw [List.all_eq_true] at h ⊢
 intro i hi
 rw [List.length_map] at hi
 have hi' := List.mem_range.1 hi
 have h1 := h i hi
 unfold y45 at h1 ⊢
 rw [Bool.and_eq_true] at h1 ⊢
 rw [z1a hi', z1a (show i - 1 < l.length by omega)]
 refine ⟨ke0 h1.1, ?_⟩
 have h2 := h1.2
 rw [y6x] at h2 ⊢
 exact h2
theorem y2c {x : Int} {S F : List Int} {l : List Stp} (h : yk4 (x, S, F, l) = true) : yr0 x S = true ∧ yr0 x F = true ∧ l.length ≤ 24 ∧ y0x x l = true ∧ yk4 (x, S, F, l.map zs) = true := by
 unfold yk4 at h ⊢
 simp only [Bool.and_eq_true, decide_eq_true_eq] at h ⊢
 obtain ⟨h1, h2, h3, h4, h5⟩ := h
 exact ⟨h2, h3, h4, h5, h1, h2, h3, by simpa using h4, y9d h5⟩
theorem y78 {a : Aut} (h : yt9 a) : yl3 a = some a := by
 obtain ⟨x, S, F, l⟩ := a
 obtain ⟨h1, h2, h3⟩ := h
 simp only at h1 h2 h3
 unfold yl3
 dsimp only
 rw [if_pos ⟨rfl, by omega⟩, if_pos ⟨rfl, by omega⟩, if_pos ⟨rfl, by omega⟩]
 simp
theorem z1b {a : Aut} (hs : yt9 a) (hv : yk4 a = true) : yf7 a 0 = some ((a.1, a.2.1, a.2.2.1, a.2.2.2.map zs), true) := by
 have hown := y78 hs
 have hV := yd8 a (yf5 hs).1 (yf5 hs).2
 obtain ⟨x, S, F, l⟩ := a
 obtain ⟨h1, h2, h3⟩ := hs
 simp only at h1 h2 h3
 obtain ⟨_, _, q3, _, q5⟩ := y2c hv
 have hV2 := yd8 (x, S, F, l.map zs) (show S.length ≤ _ by omega) (show F.length ≤ _ by omega)
 obtain ⟨r, g1, g2⟩ := yg3 (f := yf3) l.length (fun i (o : List Stp) => ((0 : Int), ((0 : Int), [], [], [], ()), (x, S, F, o, ()), l, ((l.length : Nat) : Int), (i : Int), ()))
  (fun i o => o ++ [zs (l.getD i stp0)]) (fun o => (((0 : Int), [], [], [], ()), (x, S, F, o, ()), ())) (fun i o => o = (l.take i).map zs)
  (fun i o hi ho => by rw [ho, yk5 hi, List.map_append, y0m stp0 hi]; rfl)
  (fun i o hi ho => by
   have hol : o.length = i := by rw [ho, List.length_map, List.length_take]; omega
   have e : ∀ c : Int, IntKind.wrap .i64 (c * 0) = 0 := fun c => by rw [Int.mul_zero]; rfl
   simp only [yf3, lt_t hi, cond_true, if_pos (in_t hi), Int.toNat_natCast, Nat.zero_add, e]
   show (if True ∧ (o.length + (List.take 1 (List.drop 0 [zs (l.getD i stp0)])).length) * 40 ≤ 140737488355328 then some (Sum.inl ((0 : Int), ((0 : Int), List.take ([] : List Int).length (List.drop 0 ([] : List Int)), List.take ([] : List Int).length (List.drop 0 ([] : List Int)), List.take ([] : List Stp).length (List.drop 0 ([] : List Stp)), ()), (x, List.take S.length (List.drop 0 S), List.take F.length (List.drop 0 F), List.take (o.length + (List.take 1 (List.drop 0 [zs (l.getD i stp0)])).length) (List.drop 0 (List.drop 0 o ++ List.take 1 (List.drop 0 [zs (l.getD i stp0)]))), ()), List.take l.length (List.drop 0 l), ((l.length : Nat) : Int), IntKind.wrap .i64 ((i : Int) + 1), ())) else none) = _
   rw [show List.take 1 (List.drop 0 [zs (l.getD i stp0)]) = [zs (l.getD i stp0)] from rfl, if_pos ⟨trivial, by show (o.length + 1) * 40 ≤ _; omega⟩, ya4 hi (by omega)]
   simp only [List.drop_zero, List.take_length, List.length_nil, List.take_nil]
   rw [List.take_of_length_le (by simp)])
  (fun o ho => by simp only [yf3, lt_f, cond_false, List.drop_zero, List.take_length, List.length_nil, List.take_nil])
  [] rfl
 have g1 : ya2 yf3 ((0 : Int), ((0 : Int), [], [], [], ()), (x, S, F, [], ()), l, ((l.length : Nat) : Int), (0 : Int), ()) = some (((0 : Int), [], [], [], ()), (x, S, F, r, ()), ()) := g1
 rw [List.take_length] at g2
 subst g2
 have hin : yu7 (0 : Int) (0 : Int) (3 : Int) = some true := rfl
 unfold yf7
 dsimp only
 rw [hown]
 simp only [Option.bind_some, List.drop_zero, List.take_length, hV, hv, Bool.not_true, cond_false, hin, List.take_zero, g1]
 simp only [yw1, hV2, q5, Option.bind_some, Bool.not_true, cond_false]
theorem kn3 {a : Aut} (hs : yt9 a) (hv : yk4 a = false) (n : Int) : yf7 a n = some (((0 : Int), [], [], []), false) := by
 have hown := y78 hs
 have hV := yd8 a (yf5 hs).1 (yf5 hs).2
 obtain ⟨x, S, F, l⟩ := a
 unfold yf7
 dsimp only
 rw [hown]
 simp only [Option.bind_some, List.drop_zero, List.take_length, hV, hv, Bool.not_false, cond_true]
theorem ke1 {S F : List Int} : ∀ {l : List Stp} {P : List Stp}, allP S F P (l.map zs) = allP S F P l
 | [], _ => rfl
 | s :: l, P => ke1 (l := l) (P := rowP S s P F)
/-- the automaton of factors -/
theorem z54 {a : Aut} (hs : yt9 a) : ∃ R ok, ye4 a = some (R, ok) ∧ yc6 a = some (R, ok) ∧ yt9 R ∧ (ok = true → yk4 R = true) := by
 have hV := yb9 a (yf5 hs).1 (yf5 hs).2
 have hown := y78 hs
 cases hv : yk4 a with
 | false =>
  have hsc := kn3 hs hv 0
  obtain ⟨x, S, F, l⟩ := a
  refine ⟨((0 : Int), [], [], []), false, ?_, ?_, ⟨by show (0 : Nat) ≤ _; omega, by show (0 : Nat) ≤ _; omega, by show (0 : Nat) ≤ _; omega⟩, fun h => by cases h⟩
  ·unfold ye4
   dsimp only
   rw [hown]
   simp only [Option.bind_some, List.drop_zero, List.take_length, hsc, Bool.not_false, cond_true]
  ·unfold yc6
   dsimp only
   rw [hV]
   simp only [Option.bind_some, hv, Bool.not_false, cond_true]
 | true =>
  have hsc := z1b hs hv
  obtain ⟨x, S, F, l⟩ := a
  obtain ⟨h1, h2, h3⟩ := hs
  simp only at h1 h2 h3
  have hsc : yf7 (x, S, F, l) 0 = some ((x, S, F, l.map zs), true) := hsc
  obtain ⟨q1, q2, q3, q4, q5⟩ := y2c hv
  have hlz : (l.map zs).length = l.length := List.length_map _
  have h0 : IP (l.map zs) (l.map zs) := by
   refine ⟨List.Perm.refl _, ?_, ?_⟩
   ·exact z06 (y9d q4)
   ·intro s hs
    obtain ⟨t, _, rfl⟩ := List.mem_map.1 hs
    exact Int.zero_le_ofNat 1
  have hall := h0.all (S := S) (F := F) (l := l)
  have hst := zp4 (l := l) (by omega) (φ := fun y1 => yn9 y1.1) (z := zs) (fun s => rfl)
  have hi := z4k (x := x) (S := S) (F := F) (l := l) h1 h2 q3 (l.map zs) (by omega)
  have hsp := z4l (x := x) (S := S) (F := F) (l := l) h1 h2 (L := l.map zs) (by omega) (I := l.map zs) (P := l.map zs) (by omega) h0
  rw [ke1] at hsp
  have hlen : (allI S F (l.map zs) l).length ≤ 24 + 24 * 1048576 := by
   have := y77 (S := S) (F := F) (I := l.map zs) l l.length (Nat.le_refl _)
   rw [List.take_length] at this
   have hm : l.length * F.length ≤ 24 * 1048576 := Nat.mul_le_mul q3 h2
   omega
  have hm := kd7 (x := x) (S := S) (F := F) q1 q2 hall.srt hall.perm h1 h2 (by omega)
  have hV2 := yd8 (x, S, F, allP S F (l.map zs) l) (show S.length ≤ _ by omega) (show F.length ≤ _ by omega)
  generalize allP S F (l.map zs) l = P at hsp hm hV2
  have hspec : ye4 (x, S, F, l) = some (if yk4 (x, S, F, P) = true then ((x, S, F, P), true) else (((0 : Int), [], [], []), false)) := by
   unfold ye4
   dsimp only
   rw [hown]
   simp only [Option.bind_some, List.drop_zero, List.take_length, hsc, Bool.not_true, cond_false, hsp]
   simp only [yw1, hV2, Option.bind_some]
   cases yk4 (x, S, F, P) <;> rfl
  have himpl : yc6 (x, S, F, l) = some (if yk4 (x, S, F, P) = true then ((x, S, F, P), true) else (((0 : Int), [], [], []), false)) := by
   unfold yc6
   dsimp only
   rw [hV]
   simp only [Option.bind_some, hv, Bool.not_true, cond_false, hst, List.drop_zero, List.take_length, hi, hm]
  rw [hspec, himpl]
  cases hP : yk4 (x, S, F, P) with
  | true =>
   obtain ⟨_, _, p3, _, _⟩ := y2c hP
   exact ⟨_, _, rfl, rfl, ⟨h1, h2, by show P.length ≤ _; omega⟩, fun _ => hP⟩
  | false =>
   exact ⟨_, _, rfl, rfl, ⟨by show (0 : Nat) ≤ _; omega, by show (0 : Nat) ≤ _; omega, by show (0 : Nat) ≤ _; omega⟩, fun h => by cases h⟩
end Go.Proofs.YtogigagfgkfkhaaGreat
