/- The law of what grows between two states. -/
import Derived.Test.YtohllafjfhjmmaaP54
set_option linter.unusedVariables false
set_option linter.unusedSimpArgs false
namespace Go.Proofs.Ytohllafjfhjmmaa
open Go Go.Proofs.Ytohllafjfhjmmaa.Am
theorem drawBetween_is {c : List Int} (hc : ∀ x ∈ c, 0 ≤ x ∧ x ≤ 255) : ∃ a u v, spec_DrawGrowingBetween c = some (a, u, v) ∧ Small a := by
  obtain ⟨⟨b, k⟩, p0, s0⟩ := l13Open_is hc
  obtain ⟨⟨x, S, F, l⟩, ⟨b1, k1⟩, p1, t1, s1⟩ := l8Draw_is s0 (by omega)
  obtain ⟨u, _, p2⟩ := num_is s1 (by omega) (l := List.take 5 (List.drop 0 [(0 : Int), (1 : Int), (2 : Int), (-1 : Int), (4 : Int)])) (by decide) (by decide)
  obtain ⟨v, _, p3⟩ := num_is s1.next (by omega) (l := List.take 5 (List.drop 0 [(0 : Int), (1 : Int), (2 : Int), (-1 : Int), (4 : Int)])) (by decide) (by decide)
  refine ⟨(x, S, F, l), u, v, ?_, t1.small⟩
  unfold spec_DrawGrowingBetween
  rw [p0]
  simp only [Option.bind_some]
  rw [p1]
  simp only [Option.bind_some]
  rw [p2]
  simp only [Option.bind_some]
  rw [p3]
  rfl
theorem gb_is {a : Aut} (hs : Small a) (u v : Int) : impl_GrowingBetween a u v = some ((⟨#[]⟩ : ByteArray), false) ∨ ∃ n : Nat, a.1 = (n : Int) ∧ autOk a = true ∧ (0 ≤ u ∧ u ≤ (n : Int) - 1) ∧ (0 ≤ v ∧ v ≤ (n : Int) - 1) ∧ ∃ e, impl_GrowingBetween a u v = some (e, true) := by
  cases hv : autOk a with
  | false =>
    obtain ⟨e1, e2⟩ := elements_not hv hs
    have e3 : ∀ φ, impl_firstWith a φ = some ((⟨#[]⟩ : ByteArray), false) := fun φ => firstWith_is e2 (by simp) (p := fun _ => false) (fun e he => by cases he)
    obtain ⟨x, S, F, l⟩ := a
    left
    simp only [impl_GrowingBetween, e3, Option.bind_some]
    cases decide (u < 0) <;> cases decide (u ≥ x) <;> cases decide (v < 0) <;> cases decide (v ≥ x) <;> rfl
  | true =>
    obtain ⟨n, ha⟩ := autOk_is hv
    obtain ⟨L, ok, hL, e1, e2, e0⟩ := elements_valid ha hv hs
    have hst := ha.st
    obtain ⟨x, S, F, l⟩ := a
    have hx : x = (n : Int) := hst
    subst hx
    by_cases hin : (0 ≤ u ∧ u ≤ (n : Int) - 1) ∧ (0 ≤ v ∧ v ≤ (n : Int) - 1)
    · have hg := growB_is hL ha.n4 hin.1 hin.2 e2
      rcases hf : firstOf L (fun e => e.1.2.getD (u.toNat * n + v.toNat) 0 == 2) with ⟨e, b⟩
      rw [hf] at hg
      cases b with
      | true => exact .inr ⟨n, rfl, rfl, hin.1, hin.2, e, hg⟩
      | false =>
        left
        rw [hg]
        unfold firstOf at hf
        split at hf
        · cases hf
        · rw [← (Prod.mk.inj hf).1]
    · left
      simp only [impl_GrowingBetween]
      by_cases c1 : u < 0
      · simp only [decide_eq_true c1, cond_true]
      · by_cases c2 : u ≥ (n : Int)
        · simp only [decide_eq_false c1, decide_eq_true c2, cond_true, cond_false]
        · by_cases c3 : v < 0
          · simp only [decide_eq_false c1, decide_eq_false c2, decide_eq_true c3, cond_true, cond_false]
          · have c4 : v ≥ (n : Int) := by
              apply Classical.byContradiction
              intro c4
              exact hin ⟨⟨by omega, by omega⟩, by omega, by omega⟩
            simp only [decide_eq_false c1, decide_eq_false c2, decide_eq_false c3, decide_eq_true c4, cond_true, cond_false]
theorem p_FnGrowingBetween (x0 : List Int) (f0 : Fits (.sl (.int .u8)) x0) : laws_FnGrowingBetween x0 = some true := by
  unfold laws_FnGrowingBetween
  by_cases hx : ((x0.length : Nat) : Int) > 1048576
  · rw [decide_eq_true hx, cond_true]
  · rw [decide_eq_false hx, cond_false]
    obtain ⟨a, u, v, d1, sa⟩ := drawBetween_is (bytes_of f0)
    obtain ⟨r, s1, s2⟩ := growingBetween_same sa u v
    rcases gb_is sa u v with h | ⟨n, h1, hv, hu, hw, e, h⟩
    · rw [h] at s2
      obtain rfl := Option.some.inj s2
      obtain ⟨x, S, F, l⟩ := a
      rw [d1]
      simp only [Option.bind_some]
      rw [h, s1]
      simp only [Option.bind_some, BEq.rfl, Bool.not_true, cond_false, Bool.not_false, cond_true]
    · rw [h] at s2
      obtain rfl := Option.some.inj s2
      obtain ⟨n', ha⟩ := autOk_is hv
      have h4 := ha.n4
      have hst := ha.st
      obtain ⟨x, S, F, l⟩ := a
      have h1 : x = (n : Int) := h1
      subst h1
      obtain rfl : n = n' := by have : ((n : Nat) : Int) = (n' : Int) := hst; omega
      obtain ⟨A, q1, q2, q3, q4, q5, q6⟩ := between_facts sa hv hu hw h
      obtain ⟨w1, w2⟩ := mulwI h4 hu hw
      rw [d1]
      simp only [Option.bind_some]
      rw [h, s1]
      simp only [Option.bind_some, BEq.rfl, Bool.not_true, cond_false]
      rw [q1]
      simp only [Option.bind_some]
      rw [show List.take 1 (List.drop 0 [u]) = [u] from rfl, show List.take 1 (List.drop 0 [v]) = [v] from rfl, q5]
      simp only [Option.bind_some, w1, Int.toNat_natCast, Nat.zero_add]
      rw [if_pos ⟨by omega, by rw [q3.1]; omega⟩, q4]
      simp only [BEq.rfl, cond_true, Bool.not_false, impl_GradeOf, q2, Option.bind_some, Bool.not_true, cond_false, List.drop_zero, List.take_length, q6]
end Go.Proofs.Ytohllafjfhjmmaa
