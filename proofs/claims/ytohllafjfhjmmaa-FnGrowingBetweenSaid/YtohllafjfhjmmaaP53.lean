/- What grows between two states grows there. -/
import Derived.Test.YtohllafjfhjmmaaP36
import Derived.Test.YtohllafjfhjmmaaP52
set_option linter.unusedVariables false
set_option linter.unusedSimpArgs false
namespace Go.Proofs.Ytohllafjfhjmmaa
open Go Go.Proofs.Ytohllafjfhjmmaa.Am
theorem firstOf_some {L : List Elt} {p : Elt → Bool} {e : ByteArray} (h : firstOf L p = (e, true)) : ∃ x ∈ L, p x = true ∧ x.2 = e := by
  unfold firstOf at h
  cases hf : (List.range L.length).find? fun i => p (L.getD i el0) with
  | none => rw [hf] at h; cases h
  | some i =>
    rw [hf] at h
    have hi := List.mem_range.1 (List.mem_of_find?_eq_some hf)
    exact ⟨L.getD i el0, by rw [getD_get el0 hi]; exact List.getElem_mem hi, (List.find?_some (p := fun i => p (L.getD i el0)) hf : p (L.getD i el0) = true), (Prod.mk.inj h).1⟩
theorem firstOf_has {L : List Elt} {p : Elt → Bool} {x : Elt} (hx : x ∈ L) (hp : p x = true) : (firstOf L p).2 = true := by
  unfold firstOf
  cases hf : (List.range L.length).find? fun i => p (L.getD i el0) with
  | some i => rfl
  | none =>
    exfalso
    obtain ⟨i, hi, rfl⟩ := List.getElem_of_mem hx
    have := List.find?_eq_none.1 hf i (List.mem_range.2 hi)
    rw [getD_get el0 hi] at this
    exact this hp
theorem growB_is {n : Nat} {S F : List Int} {l : List Stp} {L : List Elt} {ok : Bool} (hL : LOk n L) (h4 : n ≤ 4) {u v : Int} (hu : 0 ≤ u ∧ u ≤ (n : Int) - 1) (hw : 0 ≤ v ∧ v ≤ (n : Int) - 1) (e2 : impl_ElementsOf ((n : Int), S, F, l) = some (L, ok)) :
    impl_GrowingBetween ((n : Int), S, F, l) u v = some (firstOf L fun e => e.1.2.getD (u.toNat * n + v.toNat) 0 == 2) := by
  obtain ⟨w1, w2⟩ := mulwI h4 hu hw
  simp only [impl_GrowingBetween, decide_eq_false (show ¬ u < 0 by omega), decide_eq_false (show ¬ u ≥ (n : Int) by omega), decide_eq_false (show ¬ v < 0 by omega), decide_eq_false (show ¬ v ≥ (n : Int) by omega), cond_false]
  rw [firstWith_is e2 hL.len (p := fun e => e.1.2.getD (u.toNat * n + v.toNat) 0 == 2) (fun e he => by
    obtain ⟨h3, h5, _⟩ := hL.el e he
    obtain ⟨⟨m, B⟩, t⟩ := e
    have h3 : m = (n : Int) := h3
    subst h3
    have h5 : B.length = n * n := h5.1
    show impl_GrowingBetween_1 ((n : Int), B) u v = _
    simp only [impl_GrowingBetween_1, impl_Matrix_at, w1, Int.toNat_natCast]
    rw [if_pos ⟨by omega, by rw [h5]; omega⟩]
    rfl)]
  rfl
theorem btw_one {n : Nat} {A : List Int} {u v : Int} (hA : 0 ≤ A.getD (u.toNat * n + v.toNat) 0 ∧ A.getD (u.toNat * n + v.toNat) 0 ≤ 3) : btw n A [u] [v] = A.getD (u.toNat * n + v.toNat) 0 := by
  show mn 3 (A.getD (u.toNat * n + v.toNat) 0) = _
  unfold mn
  split <;> omega
theorem one_ok {n u : Int} (h : 0 ≤ u ∧ u ≤ n - 1) : marksOk n [u] = true := by
  unfold marksOk
  show (marksP n [u] 0 && true) = true
  rw [Bool.and_true]
  unfold marksP
  simp [h]
/-- the same steps with one start and one final -/
theorem at_ok {n : Nat} {S F : List Int} {l : List Stp} (hv : autOk ((n : Int), S, F, l) = true) {u v : Int} (hu : 0 ≤ u ∧ u ≤ (n : Int) - 1) (hw : 0 ≤ v ∧ v ≤ (n : Int) - 1) : autOk ((n : Int), [u], [v], l) = true := by
  unfold autOk at hv ⊢
  rw [Bool.and_eq_true, Bool.and_eq_true, Bool.and_eq_true] at hv ⊢
  exact ⟨hv.1, one_ok hu, one_ok hw, hv.2.2.2⟩
theorem between_facts {n : Nat} {S F : List Int} {l : List Stp} (hs : Small ((n : Int), S, F, l)) (hv : autOk ((n : Int), S, F, l) = true) {u v : Int} (hu : 0 ≤ u ∧ u ≤ (n : Int) - 1) (hw : 0 ≤ v ∧ v ≤ (n : Int) - 1) {e : ByteArray} (h : impl_GrowingBetween ((n : Int), S, F, l) u v = some (e, true)) :
    ∃ A, impl_ValueOf ((n : Int), S, F, l) e = some (((n : Int), A), true) ∧ impl_ValueOf ((n : Int), [u], [v], l) e = some (((n : Int), A), true) ∧ GOk n A ∧ A.getD (u.toNat * n + v.toNat) 0 = 2 ∧ impl_IsBounded ((n : Int), [u], [v], l) = some (false, true) ∧ impl_GradeBetween ((n : Int), [u], [v], l) ((n : Int), A) = some 2 := by
  obtain ⟨n', ha⟩ := autOk_is hv
  obtain rfl : n' = n := by have := ha.st; have : ((n : Nat) : Int) = (n' : Int) := this; omega
  obtain ⟨L, ok, hL, e1, e2, e0, eO, eV⟩ := elements_values ha hv hs
  rw [growB_is hL ha.n4 hu hw e2] at h
  obtain ⟨x, hx, hp, rfl⟩ := firstOf_some (Option.some.inj h)
  have hp : x.1.2.getD (u.toNat * n' + v.toNat) 0 = 2 := by simpa using hp
  obtain ⟨x1, x2, x3⟩ := hL.el x hx
  have hb := at_ok hv hu hw
  have hsb : Small ((n' : Int), [u], [v], l) := ⟨by show [u].length ≤ _; simp, by show [v].length ≤ _; simp, hs.2.2⟩
  obtain ⟨n2, hab⟩ := autOk_is hb
  obtain rfl : n2 = n' := by have := hab.st; have : ((n' : Nat) : Int) = (n2 : Int) := this; omega
  obtain ⟨L', ok', hL', f1, f2, f0, fO, fV⟩ := elements_values hab hb hsb
  have hh : (L', ok') = (L, ok) := Option.some.inj (fO.symm.trans eO)
  obtain ⟨rfl, rfl⟩ := Prod.mk.inj hh
  have hok : ok' = true := by
    cases ok' with
    | true => rfl
    | false => rw [e0 rfl] at hx; cases hx
  subst hok
  have hg := growingOf_is hab hb hsb hL' f2
  have hat := x2.at (idx_lt (n := n2) (i := u.toNat) (k := v.toNat) (by omega) (by omega))
  have hgp : growP n2 [u] [v] x = true := by
    unfold growP
    rw [btw_one hat, hp]
    rfl
  have hfirst := firstOf_has hx hgp
  refine ⟨x.1.2, value_of_element ha hv hs (eV x hx) x3, value_of_element hab hb hsb (fV x hx) x3, x2, hp, ?_, ?_⟩
  · have hg : impl_GrowingOf ((n2 : Int), [u], [v], l) = some (firstOf L' (growP n2 [u] [v])) := hg
    have hpair : firstOf L' (growP n2 [u] [v]) = ((firstOf L' (growP n2 [u] [v])).1, true) := by rw [← hfirst]
    rw [hpair] at hg
    simp only [impl_IsBounded, f2, Option.bind_some, hg, cond_true, Bool.not_true]
  · rw [impl_between ha.n1 ha.n4 l (S := [u]) (F := [v]) (fun q hq => by rw [List.mem_singleton.1 hq]; exact hu) (fun q hq => by rw [List.mem_singleton.1 hq]; exact hw) (by simp) (by simp) x2 hb, btw_one hat, hp]
end Go.Proofs.Ytohllafjfhjmmaa
