/- The law of growing costs. -/
import Derived.Test.YtfdhmmnffahhgaaGreatP78
import Derived.Test.YtfdhmmnffahhgaaGreatP54
import Derived.Test.YtfdhmmnffahhgaaGreatP60
set_option linter.unusedVariables false
set_option linter.unusedSimpArgs false
namespace Go.Proofs.YtfdhmmnffahhgaaGreat
open Go Go.Proofs.YtfdhmmnffahhgaaGreat.Am
theorem drawGrowing_is {c : List Int} (hc : ∀ x ∈ c, 0 ≤ x ∧ x ≤ 255) : ∃ a, spec_DrawGrowingOf c = some a ∧ Small a := by
 obtain ⟨⟨b, k⟩, p0, s0⟩ := l13Open_is hc
 obtain ⟨⟨x, S, F, l⟩, ⟨b1, k1⟩, p1, t1, s1⟩ := l8Draw_is s0 (by omega)
 refine ⟨(x, S, F, l), ?_, t1.small⟩
 unfold spec_DrawGrowingOf
 rw [p0]
 simp only [Option.bind_some]
 rw [p1]
 rfl
theorem bounded_is3 {a : Aut} {n : Nat} (ha : AutIs a n) (hv : autOk a = true) (hs : Small a) {L : List Elt} {ok : Bool} (hL : LOk n L) (e2 : impl_ElementsOf a = some (L, ok)) : impl_IsBounded a = some (ok && !(firstOf L (growP n a.2.1 a.2.2.1)).2, ok) := by
 have e3 := growingOf_is ha hv hs hL e2
 obtain ⟨x, S, F, l⟩ := a
 rcases hf : firstOf L (growP n S F) with ⟨t, b⟩
 have e3 : impl_GrowingOf (x, S, F, l) = some (firstOf L (growP n S F)) := e3
 rw [hf] at e3
 simp only [impl_IsBounded, e2, e3, Option.bind_some, hf]
 cases ok <;> simp
/-- what is growing, and what is bounded -/
theorem grow_known {a : Aut} (hs : Small a) : ∃ e ok is known, spec_GrowingOf a = some (e, ok) ∧ impl_GrowingOf a = some (e, ok) ∧ spec_IsBounded a = some (is, known) ∧ impl_IsBounded a = some (is, known) ∧ (known = false → ok = false) ∧ (known = true → is = !ok) ∧ (ok = false → e = ⟨#[]⟩) := by
 obtain ⟨⟨e, ok⟩, g1, g2⟩ := growing_same hs
 obtain ⟨⟨is, known⟩, b1, b2⟩ := bounded_same hs
 cases hv : autOk a with
 | false =>
  obtain ⟨_, e2⟩ := elements_not hv hs
  have e3 := growingOf_not e2
  rw [e3] at g2
  obtain ⟨rfl, rfl⟩ := Prod.mk.inj (Option.some.inj g2)
  refine ⟨_, _, is, known, g1, e3, b1, b2, fun _ => rfl, fun hk => ?_, fun _ => rfl⟩
  have : impl_IsBounded a = some (false, false) := by
   obtain ⟨x, S, F, l⟩ := a
   simp only [impl_IsBounded, e2, e3, Option.bind_some, cond_false]
  rw [this] at b2
  obtain ⟨rfl, rfl⟩ := Prod.mk.inj (Option.some.inj b2)
  cases hk
 | true =>
  obtain ⟨n, ha⟩ := autOk_is hv
  obtain ⟨L, ok', hL, e1, e2, e0⟩ := elements_valid ha hv hs
  have e3 := growingOf_is ha hv hs hL e2
  have e4 := bounded_is3 ha hv hs hL e2
  rw [e3] at g2
  rw [e4] at b2
  have g3 := Option.some.inj g2
  obtain ⟨h1, h2⟩ := Prod.mk.inj (Option.some.inj b2)
  subst h2
  have h5 : (firstOf L (growP n a.2.1 a.2.2.1)).2 = ok := by rw [g3]
  refine ⟨e, ok, is, ok', g1, by rw [e3, g3], b1, by rw [e4, h1], fun hk => ?_, fun hk => ?_, fun hk => ?_⟩
  ·subst hk
   obtain rfl := e0 rfl
   rw [← h5]
   rfl
  ·rw [← h1, h5, hk]
   rfl
  ·have := firstOf_no (L := L) (p := growP n a.2.1 a.2.2.1) (h5.trans hk)
   rw [g3] at this
   exact (Prod.mk.inj this).1
theorem p_FnGrowingOf (x0 : List Int) (f0 : Fits (.sl (.int .u8)) x0) : laws_FnGrowingOf x0 = some true := by
 unfold laws_FnGrowingOf
 by_cases hx : ((x0.length : Nat) : Int) > 1048576
 ·rw [decide_eq_true hx, cond_true]
 rw [decide_eq_false hx, cond_false]
 obtain ⟨a, d1, hs⟩ := drawGrowing_is (bytes_of f0)
 obtain ⟨e, ok, is, known, g1, g2, b1, b2, k1, k2, k3⟩ := grow_known hs
 cases known with
 | false =>
  obtain rfl := k1 rfl
  obtain ⟨x, S, F, st⟩ := a
  rw [d1]
  simp only [Option.bind_some, g1, g2, b1, b2, BEq.rfl, Bool.not_true, Bool.not_false, cond_false, cond_true]
 | true =>
  obtain rfl := k2 rfl
  cases ok with
  | false =>
   obtain rfl := k3 rfl
   obtain ⟨x, S, F, st⟩ := a
   rw [d1]
   simp only [Option.bind_some, g1, g2, b1, b2, BEq.rfl, Bool.not_true, Bool.not_false, cond_false, cond_true]
  | true =>
   obtain ⟨n, t, l, A, hG⟩ := grows_of hs g2
   have hX : ∀ m, ∃ w, Xo m t l w := hG.xo
   have he := hG.e
   subst he
   have hval := valueOf_vo hG.ha hG.v hs hG.vo hG.len
   have hbt := impl_between hG.ha.n1 hG.ha.n4 a.2.2.2 hG.ha.S hG.ha.F hs.1 hs.2.1 hG.ok (by
    have := hG.v
    have h1 := hG.ha.st
    obtain ⟨x, S, F, st⟩ := a
    have h1 : x = (n : Int) := h1
    subst h1
    exact this)
   have h4 := hG.ha.n4
   have h1n := hG.ha.n1
   have hbtw := hG.btw
   have hemp := impl_CostOf_is hs hG.v (w := (⟨#[]⟩ : ByteArray)) rfl
   have hst := hG.ha.st
   obtain ⟨x, S, F, st⟩ := a
   have hst : x = (n : Int) := hst
   subst hst
   have hge : impl_GradeOf ((n : Int), S, F, st) (B t) = some 2 := by
    simp only [impl_GradeOf, hval, Option.bind_some, Bool.not_true, cond_false, List.drop_zero, List.take_length]
    have hbt : impl_GradeBetween ((n : Int), S, F, st) ((n : Int), A) = some (btw n A S F) := hbt
    rw [hbt]
    have hbtw : btw n A S F = 2 := hbtw
    rw [hbtw]
    rfl
   have w1 : IntKind.wrap .i64 ((n : Int) + (1 : Int)) = ((n + 1 : Nat) : Int) := by rw [w64 (by omega) (by omega)]; rfl
   have w2 : IntKind.wrap .i64 ((IntKind.wrap .i64 ((2 : Int) * (n : Int))) + (2 : Int)) = ((2 * n + 2 : Nat) : Int) := by
    rw [w64 (show -9223372036854775808 ≤ (2 : Int) * (n : Int) by omega) (by omega), w64 (by omega) (by omega)]
    omega
   obtain ⟨_, g3, _⟩ := loop_inv (f := laws_FnGrowingOf_l13) (α := Unit) (n + 2) (fun i _ => (((n : Int), S, F, st, ()), B t, false, ((n + 1 + i : Nat) : Int), ())) (fun _ _ => ()) (fun _ => Sum.inr (((n : Int), S, F, st, ()), B t, false, ())) (fun _ _ => True) (fun _ _ _ _ => trivial)
    (fun i _ hi _ => by
     obtain ⟨w, hw⟩ := hX (n + 1 + i)
     have hle : decide (((n + 1 + i : Nat) : Int) ≤ ((2 * n + 2 : Nat) : Int)) = true := decide_eq_true (by omega)
     have hex := expand_impl (by omega) hw hG.ne hG.len
     have w3 : IntKind.wrap .i64 (((n + 1 + i : Nat) : Int) + (1 : Int)) = ((n + 1 + (i + 1) : Nat) : Int) := by rw [w64 (by omega) (by omega)]; rfl
     by_cases hl : w.length ≤ 1000
     ·have hxp : xpR w = (B w, true) := by unfold xpR; rw [if_pos hl]
      obtain ⟨c, c1, c2⟩ := impl_CostOf_is hs hG.v (xo_word hw hl)
      have c2 : CostIs ((n : Int), S, F, st) w c := c2
      have hnv : c < 1000000 := hG.had (by omega) hw hl c2
      have hq := hG.cost (m := n + 1 + i) (by omega) (by omega) hw hl c2
      have hq2 : (n + 1 + i) / (n + 1) ≤ n + 1 + i := Nat.div_le_self _ _
      have hne : (c == (1000000 : Int)) = false := by
       rw [beq_eq_false_iff_ne]
       omega
      simp only [laws_FnGrowingOf_l13, w2, hle, cond_true, hex, hxp, Option.bind_some, c1, hne, cond_false, w1]
      rw [if_neg (show ¬ ((n + 1 : Nat) : Int) = 0 by omega), tdiv_nat]
      generalize (n + 1 + i) / (n + 1) = q at hq hq2 ⊢
      rw [w64 (by omega) (by omega), decide_eq_false (show ¬ c < (q : Int) by omega), cond_false, w3]
      cases decide ((((B w).size : Nat) : Int) < 200) <;> rfl
     ·have hxp : xpR w = ((⟨#[]⟩ : ByteArray), false) := by unfold xpR; rw [if_neg hl]
      obtain ⟨c, c1, _⟩ := hemp
      simp only [laws_FnGrowingOf_l13, w2, hle, cond_true, hex, hxp, Option.bind_some, c1, cond_false, w3])
    (fun _ _ => by
     have hle : decide (((n + 1 + (n + 2) : Nat) : Int) ≤ ((2 * n + 2 : Nat) : Int)) = false := decide_eq_false (by omega)
     simp only [laws_FnGrowingOf_l13, w2, hle, cond_false]) () trivial
   have g3 : loopF laws_FnGrowingOf_l13 (((n : Int), S, F, st, ()), B t, false, ((n + 1 : Nat) : Int), ()) = _ := g3
   rw [d1]
   simp only [Option.bind_some, g1, g2, b1, b2, BEq.rfl, Bool.not_true, Bool.not_false, cond_false, cond_true, w1, g3, hge]
end Go.Proofs.YtfdhmmnffahhgaaGreat
