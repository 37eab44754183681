/- Steps in order: what is put among them; the sort of steps. -/
import Derived.Test.YtogigagfgkfkhaaP61
set_option linter.unusedVariables false
set_option linter.unusedSimpArgs false
namespace Go.Proofs.Ytogigagfgkfkhaa
open Go Go.Proofs.Ytogigagfgkfkhaa.Am
theorem getD_g {α : Type} {l : List α} {i : Nat} (d : α) (hi : i < l.length) : l.getD i d = l[i] := by
 rw [List.getD_eq_getElem?_getD, List.getElem?_eq_getElem hi]
 rfl
theorem befB_lt (s t : Stp) : befB s t = ltS s t := by
 obtain ⟨r, h1, h2⟩ := impl_stepOrder_is s t
 have h3 := told_stepOrder s t
 rw [h3] at h1
 obtain rfl := Option.some.inj h1
 unfold ltS
 cases hb : befB s t with
 | true =>
  rw [hb] at h2
  have := of_decide_eq_false h2
  exact (decide_eq_true (by omega)).symm
 | false =>
  rw [hb] at h2
  have := of_decide_eq_true h2
  exact (decide_eq_false (by omega)).symm
theorem ltS_trans {a b c : Stp} (h : ltS a b = true) (k : ltS b c = true) : ltS a c = true := by
 have h := of_decide_eq_true h
 have k := of_decide_eq_true k
 have g1 := good_step.le a b c (by omega) (by omega)
 have g2 := good_step.eq a b c (by omega) (by omega)
 exact decide_eq_true (by omega)
theorem ltS_asymm {a b : Stp} (h : ltS a b = true) : ltS b a = false := by
 have h := of_decide_eq_true h
 have g := good_step.anti a b
 exact decide_eq_false (by omega)
theorem same_of {a b : Stp} (h : ltS a b = false) (k : ltS b a = false) : stepC a b = 0 := by
 have h := of_decide_eq_false h
 have k := of_decide_eq_false k
 have g := good_step.anti a b
 omega
theorem not_same {a b : Stp} (h : ltS a b = true) : stepC a b ≠ 0 := by
 have h := of_decide_eq_true h
 omega
/-- steps that stand in order, none twice -/
def Srt (l : List Stp) : Prop := l.Pairwise fun s t => ltS s t = true
def ins (x : Stp) : List Stp → List Stp
 | [] => [x]
 | s :: l => if ltS s x = true then s :: ins x l else if ltS x s = true then x :: s :: l else s :: l
theorem ins_mem {x y : Stp} : ∀ {l : List Stp}, y ∈ ins x l → y = x ∨ y ∈ l
 | [], h => .inl (List.mem_singleton.1 h)
 | s :: l, h => by
  unfold ins at h
  split at h
  ·rcases List.mem_cons.1 h with rfl | h
   ·exact .inr List.mem_cons_self
   ·exact (ins_mem h).imp id (List.mem_cons_of_mem _)
  ·split at h
   ·rcases List.mem_cons.1 h with rfl | h
    ·exact .inl rfl
    ·exact .inr h
   ·exact .inr h
theorem ins_srt {x : Stp} : ∀ {l : List Stp}, Srt l → Srt (ins x l)
 | [], _ => List.pairwise_singleton _ _
 | s :: l, h => by
  obtain ⟨h1, h2⟩ := List.pairwise_cons.1 h
  unfold ins
  split
  ·rename_i hs
   refine List.pairwise_cons.2 ⟨fun y hy => ?_, ins_srt h2⟩
   rcases ins_mem hy with rfl | hy
   ·exact hs
   ·exact h1 y hy
  ·split
   ·rename_i hx
    refine List.pairwise_cons.2 ⟨fun y hy => ?_, h⟩
    rcases List.mem_cons.1 hy with rfl | hy
    ·exact hx
    ·exact ltS_trans hx (h1 y hy)
   ·exact h
theorem ins_same {x : Stp} : ∀ {l : List Stp}, Srt l → (∃ s ∈ l, stepC s x = 0) → ins x l = l
 | [], _, ⟨_, h, _⟩ => by cases h
 | s :: l, h, ⟨t, ht, he⟩ => by
  obtain ⟨h1, h2⟩ := List.pairwise_cons.1 h
  unfold ins
  rcases List.mem_cons.1 ht with rfl | ht
  ·have a1 : ¬ ltS t x = true := fun hh => not_same hh he
   have a2 : ¬ ltS x t = true := fun hh => by
    have := not_same hh
    have g := good_step.anti t x
    omega
   rw [if_neg a1, if_neg a2]
  ·have hst := h1 t ht
   have hsx : ltS s x = true := by
    have b1 := of_decide_eq_true hst
    have g1 := good_step.le s t x (by omega) (by omega)
    have g2 := good_step.eq s t x (by omega) (by omega)
    exact decide_eq_true (by omega)
   rw [if_pos hsx, ins_same h2 ⟨t, ht, he⟩]
theorem ins_new {x : Stp} : ∀ {l : List Stp}, (∀ s ∈ l, stepC s x ≠ 0) → (ins x l).Perm (x :: l)
 | [], _ => List.Perm.refl _
 | s :: l, h => by
  unfold ins
  split
  ·exact ((ins_new fun t ht => h t (List.mem_cons_of_mem _ ht)).cons s).trans (List.Perm.swap x s l)
  ·rename_i h1
   split
   ·exact List.Perm.refl _
   ·rename_i h2
    exact absurd (same_of (by simpa using h1) (by simpa using h2)) (h s List.mem_cons_self)
/-- the sort of steps of which none is there twice -/
theorem sortS_is {l m : List Stp} (hs : Srt m) (hp : l.Perm m) (hl : l.length < 4611686018427387904) : sortS l = some m := by
 have hex : ∃ ys, sortS l = some ys := by
  unfold sortS
  rw [if_pos hl]
  exact ⟨_, rfl⟩
 obtain ⟨ys, hy⟩ := hex
 obtain ⟨h1, h2, h3⟩ := sortS_spec hy
 obtain ⟨q1, _, q3⟩ := h2
 have e1 : (ys.toArray.extract 0 l.length).toList = ys := by
  rw [← h1]
  simp
 have e2 : (l.toArray.extract 0 l.length).toList = l := by simp
 rw [e1, e2] at q3
 have hperm : ys.Perm m := q3.trans hp
 have hd : m.Pairwise fun s t => stepC s t ≠ 0 := hs.imp fun h => not_same h
 have hd2 : ys.Pairwise fun s t => stepC s t ≠ 0 := by
  refine (hperm.pairwise_iff ?_).2 hd
  intro a b hab
  have g := good_step.anti a b
  omega
 have hsr : ys.Pairwise fun s t => ltS s t = true := by
  rw [List.pairwise_iff_getElem] at hd2 ⊢
  intro i j hi hj hij
  have h4 := h3 i j (Nat.zero_le _) hij (by omega)
  have f1 : ys.toArray[j]! = ys[j] := by rw [getElem!_pos ys.toArray j (by simpa using hj)]; rfl
  have f2 : ys.toArray[i]! = ys[i] := by rw [getElem!_pos ys.toArray i (by simpa using hi)]; rfl
  rw [f1, f2] at h4
  have h5 := hd2 i j hi hj hij
  have h6 := of_decide_eq_false h4
  have g := good_step.anti ys[i] ys[j]
  exact decide_eq_true (by omega)
 have : ys = m := by
  refine List.Perm.eq_of_pairwise (le := fun s t => ltS s t = true) ?_ hsr hs hperm
  intro a b _ _ h5 h6
  rw [ltS_asymm h5] at h6
  cases h6
 rw [hy, this]
end Go.Proofs.Ytogigagfgkfkhaa
