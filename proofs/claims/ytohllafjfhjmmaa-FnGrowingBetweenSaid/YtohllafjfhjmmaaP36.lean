/- Bounded costs and elements that grow between two states: both sides tell the same; the laws. -/
import Derived.Test.YtohllafjfhjmmaaP35
set_option linter.unusedVariables false
set_option linter.unusedSimpArgs false
namespace Go.Proofs.Ytohllafjfhjmmaa
open Go Go.Proofs.Ytohllafjfhjmmaa.Am
def growP (n : Nat) (S F : List Int) (e : Elt) : Bool := btw n e.1.2 S F == 2
theorem growingOf_is {a : Aut} {n : Nat} (ha : AutIs a n) (hv : autOk a = true) (hs : Small a) {L : List Elt} {ok : Bool} (hL : LOk n L) (hE : impl_ElementsOf a = some (L, ok)) : impl_GrowingOf a = some (firstOf L (growP n a.2.1 a.2.2.1)) := by
  obtain ⟨x, S, F, l⟩ := a
  have hx : x = (n : Int) := ha.st
  subst hx
  have hb := fun (e : Elt) (he : e ∈ L) => impl_between ha.n1 ha.n4 l ha.S ha.F hs.1 hs.2.1 (hL.el e he).2.1 hv
  simp only [impl_GrowingOf]
  rw [firstWith_is hE hL.len (p := growP n S F) (fun e he => by
    have h1 := (hL.el e he).1
    have h2 := hb e he
    obtain ⟨⟨m, B⟩, t⟩ := e
    have h1 : m = (n : Int) := h1
    subst h1
    have h2 : impl_GradeBetween ((n : Int), S, F, l) ((n : Int), B) = some (btw n B S F) := h2
    show impl_GrowingOf_1 ((n : Int), B) ((n : Int), S, F, l) = _
    simp only [impl_GrowingOf_1, h2, Option.bind_some]
    rfl)]
  rfl
theorem growingOf_not {a : Aut} (hE : impl_ElementsOf a = some ([], false)) : impl_GrowingOf a = some ((⟨#[]⟩ : ByteArray), false) := by
  obtain ⟨x, S, F, l⟩ := a
  simp only [impl_GrowingOf]
  rw [firstWith_is hE (by simp) (p := fun _ => false) (fun e he => by cases he)]
  rfl
theorem growingBetween_same {a : Aut} (hs : Small a) (u v : Int) : ∃ r, spec_GrowingBetween a u v = some r ∧ impl_GrowingBetween a u v = some r := by
  cases hv : autOk a with
  | false =>
    obtain ⟨e1, e2⟩ := elements_not hv hs
    have e3 : ∀ φ, impl_firstWith a φ = some ((⟨#[]⟩ : ByteArray), false) := fun φ => firstWith_is e2 (by simp) (p := fun _ => false) (fun e he => by cases he)
    obtain ⟨x, S, F, l⟩ := a
    refine ⟨((⟨#[]⟩ : ByteArray), false), ?_, ?_⟩
    · simp only [spec_GrowingBetween, e1, Option.bind_some, List.drop_zero, List.take_length]
      rw [loopF_eq]
      simp only [spec_GrowingBetween_l3, List.length_nil, show decide ((0 : Int) < ((0 : Nat) : Int)) = false from rfl, cond_false, Option.bind_some]
    · simp only [impl_GrowingBetween, e3, Option.bind_some]
      cases decide (u < 0) <;> cases decide (u ≥ x) <;> cases decide (v < 0) <;> cases decide (v ≥ x) <;> rfl
  | true =>
    obtain ⟨n, ha⟩ := autOk_is hv
    obtain ⟨L, ok, hL, e1, e2, e0⟩ := elements_valid ha hv hs
    obtain ⟨x, S, F, l⟩ := a
    have hx : x = (n : Int) := ha.st
    subst hx
    have hlen := hL.len
    have h4 := ha.n4
    have h1 := ha.n1
    by_cases hin : (0 ≤ u ∧ u ≤ (n : Int) - 1) ∧ (0 ≤ v ∧ v ≤ (n : Int) - 1)
    · obtain ⟨hu, hw⟩ := hin
      obtain ⟨w1, w2⟩ := mulwI h4 hu hw
      refine ⟨firstOf L fun e => e.1.2.getD (u.toNat * n + v.toNat) 0 == 2, ?_, ?_⟩
      · have g := loop_find (f := spec_GrowingBetween_l3) (fun i => (u, v, ((n : Int), S, F, l, ()), L, (L.length : Int), (i : Int), ())) L.length (fun i => (L.getD i el0).1.2.getD (u.toNat * n + v.toNat) 0 == 2) (fun i => Sum.inl ((L.getD i el0).2, true, ())) (Sum.inr ())
          (fun i hi => by
            have hat := hL.at hi
            simp only [spec_GrowingBetween_l3, lt_t hi, cond_true, if_pos (in_t hi), Int.toNat_natCast, Nat.zero_add, spec_l1In_is, Option.bind_some, w64 (show -9223372036854775808 ≤ (n : Int) - 1 by omega) (show (n : Int) - 1 ≤ 9223372036854775807 by omega), decide_eq_true hu, decide_eq_true hw, w1, List.drop_zero, List.take_length]
            rw [if_pos ⟨by omega, by rw [hat.2.1.1]; omega⟩]
            simp only [w64_succ hi (show L.length ≤ 9223372036854775807 by omega)]
            cases (L.getD i el0).1.2.getD (u.toNat * n + v.toNat) 0 == 2 <;> rfl)
          (by simp only [spec_GrowingBetween_l3, lt_f, cond_false])
        have g : loopF spec_GrowingBetween_l3 (u, v, ((n : Int), S, F, l, ()), L, (L.length : Int), (0 : Int), ()) = _ := g
        simp only [spec_GrowingBetween, e1, Option.bind_some, List.drop_zero, List.take_length]
        rw [g]
        unfold firstOf
        cases (List.range L.length).find? fun i => (L.getD i el0).1.2.getD (u.toNat * n + v.toNat) 0 == 2 <;> rfl
      · simp only [impl_GrowingBetween, decide_eq_false (show ¬ u < 0 by omega), decide_eq_false (show ¬ u ≥ (n : Int) by omega), decide_eq_false (show ¬ v < 0 by omega), decide_eq_false (show ¬ v ≥ (n : Int) by omega), cond_false]
        rw [firstWith_is e2 hlen (p := fun e => e.1.2.getD (u.toNat * n + v.toNat) 0 == 2) (fun e he => by
          obtain ⟨h3, h5, _⟩ := hL.el e he
          obtain ⟨⟨m, B⟩, t⟩ := e
          have h3 : m = (n : Int) := h3
          subst h3
          have h5 : B.length = n * n := h5.1
          show impl_GrowingBetween_1 ((n : Int), B) u v = _
          simp only [impl_GrowingBetween_1, impl_Matrix_at, w1, Int.toNat_natCast]
          rw [if_pos ⟨by omega, by rw [h5]; omega⟩]
          rfl)]
        rfl
    · refine ⟨((⟨#[]⟩ : ByteArray), false), ?_, ?_⟩
      · obtain ⟨r, g1, g2⟩ := loop_inv (f := spec_GrowingBetween_l3) (α := Unit) L.length (fun i _ => (u, v, ((n : Int), S, F, l, ()), L, (L.length : Int), (i : Int), ())) (fun _ _ => ()) (fun _ => Sum.inr ()) (fun _ _ => True) (fun _ _ _ _ => trivial)
          (fun i _ hi _ => by
            simp only [spec_GrowingBetween_l3, lt_t hi, cond_true, if_pos (in_t hi), Int.toNat_natCast, Nat.zero_add, spec_l1In_is, Option.bind_some, w64 (show -9223372036854775808 ≤ (n : Int) - 1 by omega) (show (n : Int) - 1 ≤ 9223372036854775807 by omega), List.drop_zero, List.take_length, w64_succ hi (show L.length ≤ 9223372036854775807 by omega)]
            by_cases hu : 0 ≤ u ∧ u ≤ (n : Int) - 1
            · have hw : ¬ (0 ≤ v ∧ v ≤ (n : Int) - 1) := fun hw => hin ⟨hu, hw⟩
              simp only [decide_eq_true hu, decide_eq_false hw, cond_true, cond_false]
            · simp only [decide_eq_false hu, cond_false])
          (fun _ _ => by simp only [spec_GrowingBetween_l3, lt_f, cond_false])
          () trivial
        have g1 : loopF spec_GrowingBetween_l3 (u, v, ((n : Int), S, F, l, ()), L, (L.length : Int), (0 : Int), ()) = _ := g1
        simp only [spec_GrowingBetween, e1, Option.bind_some, List.drop_zero, List.take_length]
        rw [g1]
        rfl
      · simp only [impl_GrowingBetween]
        by_cases c1 : u < 0
        · simp only [decide_eq_true c1, cond_true]
        · by_cases c2 : u ≥ (n : Int)
          · simp only [decide_eq_false c1, decide_eq_true c2, cond_true, cond_false]
          · by_cases c3 : v < 0
            · simp only [decide_eq_false c1, decide_eq_false c2, decide_eq_true c3, cond_true, cond_false]
            · have c4 : v ≥ (n : Int) := by
                apply Classical.byContradiction
                intro c4
                exact hin ⟨⟨by omega, by omega⟩, by omega, by omega⟩
              simp only [decide_eq_false c1, decide_eq_false c2, decide_eq_false c3, decide_eq_true c4, cond_true, cond_false]
end Go.Proofs.Ytohllafjfhjmmaa
