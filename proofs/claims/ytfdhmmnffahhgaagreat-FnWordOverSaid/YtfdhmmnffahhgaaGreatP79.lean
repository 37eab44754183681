/- The first expansion that costs so much: both sides tell the same; the law. -/
import Derived.Test.YtfdhmmnffahhgaaGreatP78
import Derived.Test.YtfdhmmnffahhgaaGreatP7
set_option linter.unusedVariables false
set_option linter.unusedSimpArgs false
namespace Go.Proofs.YtfdhmmnffahhgaaGreat
open Go Go.Proofs.YtfdhmmnffahhgaaGreat.Am
/-- what is told of a word over a cost -/
structure OverIs (a : Aut) (cost : Int) (e : ByteArray) (n : Nat) (t : List UInt8) (l : Pts) (A : List Int) (X : Nat → List UInt8) (N : Nat) : Prop where
 g : Grows a e n t l A
 hc : 0 ≤ cost
 hx : ∀ m, Xo m t l (X m)
 lt : N < 60
 no : ∀ i, i < N → (X (i + 1)).length ≤ 1000 ∧ cst a (B (X (i + 1))) < cost
 len : (X (N + 1)).length ≤ 1000
 yes : cost ≤ cst a (B (X (N + 1)))
theorem z64 {a : Aut} (hs : y2q a) (cost : Int) : (yk3 a cost = some ((⟨#[]⟩ : ByteArray), false) ∧ yk2 a cost = some ((⟨#[]⟩ : ByteArray), false)) ∨
  ∃ e n t l A X N, yg7 a = some (e, true) ∧ OverIs a cost e n t l A X N ∧ yk3 a cost = some (B (X (N + 1)), true) ∧ yk2 a cost = some (B (X (N + 1)), true) := by
 obtain ⟨⟨e, ok⟩, g1, g2⟩ := z4u hs
 cases ok with
 | false =>
  left
  obtain ⟨x, S, F, st⟩ := a
  constructor
  ·simp only [yk3, g1, Option.bind_some, Bool.not_false, cond_true]
  ·simp only [yk2, g2, Option.bind_some, Bool.not_false, cond_true]
 | true =>
  by_cases hc : cost < 0
  ·left
   obtain ⟨x, S, F, st⟩ := a
   constructor
   ·simp only [yk3, g1, Option.bind_some, Bool.not_true, cond_false, decide_eq_true hc, cond_true]
   ·simp only [yk2, g2, Option.bind_some, Bool.not_true, cond_false, decide_eq_true hc, cond_true]
  ·obtain ⟨n, t, l, A, hG⟩ := k0z hs g2
   have hX : ∀ m, ∃ w, Xo m t l w := hG.xo
   let X : Nat → List UInt8 := fun m => (hX m).choose
   have hx : ∀ m, Xo m t l (X m) := fun m => (hX m).choose_spec
   have he := hG.e
   subst he
   have i1 : ∀ i, ye4 (B t) ((i + 1 : Nat) : Int) = some (xpR (X (i + 1))) := fun i => zw0 (by omega) (hx (i + 1)) hG.ne hG.len
   have i2 : ∀ i, i < 60 → yh8 (B t) ((i + 1 : Nat) : Int) = some (xpR (X (i + 1))) := fun i hi => z63 (by omega) (by omega) (hx (i + 1)) hG.ne hG.len
   have hk : ∀ i, (X (i + 1)).length ≤ 1000 → yt4 a (B (X (i + 1))) = some (cst a (B (X (i + 1)))) ∧ yl8 a (B (X (i + 1))) = some (cst a (B (X (i + 1)))) := fun i hi => ⟨(z8h hs hG.v (z2r (hx _) hi)).1, (z8h hs hG.v (z2r (hx _) hi)).2.1⟩
   let p : Nat → Bool := fun i => !decide ((X (i + 1)).length ≤ 1000) || decide (cost ≤ cst a (B (X (i + 1))))
   obtain ⟨x, S, F, st⟩ := a
   have s1 := yr4 (f := yj3) (fun i => (cost, (x, S, F, st, ()), B t, ((i + 1 : Nat) : Int), ())) 60 p (fun i => if (X (i + 1)).length ≤ 1000 then Sum.inl (B (X (i + 1)), true, ()) else Sum.inl ((⟨#[]⟩ : ByteArray), false, ())) (Sum.inr ())
    (fun i hi => by
     have h1 : decide (((i + 1 : Nat) : Int) ≤ 60) = true := decide_eq_true (by omega)
     simp only [yj3, h1, cond_true, i2 i hi, Option.bind_some]
     by_cases hl : (X (i + 1)).length ≤ 1000
     ·have hxp : xpR (X (i + 1)) = (B (X (i + 1)), true) := by unfold xpR; rw [if_pos hl]
      have hp : p i = decide (cost ≤ cst (x, S, F, st) (B (X (i + 1)))) := by
       show (!decide ((X (i + 1)).length ≤ 1000) || _) = _
       rw [decide_eq_true hl]
       rfl
      simp only [hxp, Bool.not_true, cond_false, (hk i hl).1, Option.bind_some, hp, if_pos hl]
      by_cases h2 : cost ≤ cst (x, S, F, st) (B (X (i + 1)))
      ·rw [decide_eq_true h2]
       rfl
      ·rw [decide_eq_false h2]
       simp only [cond_false, Bool.false_eq_true, if_false]
       rw [w64 (by omega) (by omega)]
       rfl
     ·have hxp : xpR (X (i + 1)) = ((⟨#[]⟩ : ByteArray), false) := by unfold xpR; rw [if_neg hl]
      have hp : p i = true := by
       show (!decide ((X (i + 1)).length ≤ 1000) || _) = _
       rw [decide_eq_false hl]
       rfl
      simp only [hxp, Bool.not_false, cond_true, hp, if_true, if_neg hl])
    (by
     have h1 : decide (((60 + 1 : Nat) : Int) ≤ 60) = false := rfl
     simp only [yj3, h1, cond_false])
   have s2 := yr4 (f := yi8) (fun i => (cost, (x, S, F, st, ()), B t, ((i + 1 : Nat) : Int), ())) 60 p (fun i => if (X (i + 1)).length ≤ 1000 then Sum.inr (B (X (i + 1)), true, ()) else Sum.inl ()) (Sum.inl ())
    (fun i hi => by
     have h1 : decide (((i + 1 : Nat) : Int) ≤ 60) = true := decide_eq_true (by omega)
     simp only [yi8, h1, cond_true, i1 i, Option.bind_some]
     by_cases hl : (X (i + 1)).length ≤ 1000
     ·have hxp : xpR (X (i + 1)) = (B (X (i + 1)), true) := by unfold xpR; rw [if_pos hl]
      have hp : p i = decide (cost ≤ cst (x, S, F, st) (B (X (i + 1)))) := by
       show (!decide ((X (i + 1)).length ≤ 1000) || _) = _
       rw [decide_eq_true hl]
       rfl
      simp only [hxp, Bool.not_true, cond_false, (hk i hl).2, Option.bind_some, hp, if_pos hl]
      by_cases h2 : cost ≤ cst (x, S, F, st) (B (X (i + 1)))
      ·rw [decide_eq_true h2]
       rfl
      ·rw [decide_eq_false h2]
       simp only [cond_false, Bool.false_eq_true, if_false]
       rw [w64 (by omega) (by omega)]
       rfl
     ·have hxp : xpR (X (i + 1)) = ((⟨#[]⟩ : ByteArray), false) := by unfold xpR; rw [if_neg hl]
      have hp : p i = true := by
       show (!decide ((X (i + 1)).length ≤ 1000) || _) = _
       rw [decide_eq_false hl]
       rfl
      simp only [hxp, Bool.not_false, cond_true, hp, if_true, if_neg hl])
    (by
     have h1 : decide (((60 + 1 : Nat) : Int) ≤ 60) = false := rfl
     simp only [yi8, h1, cond_false])
   have s1 : ya4 yj3 (cost, (x, S, F, st, ()), B t, (1 : Int), ()) = _ := s1
   have s2 : ya4 yi8 (cost, (x, S, F, st, ()), B t, (1 : Int), ()) = _ := s2
   cases hf : (List.range 60).find? p with
   | none =>
    left
    rw [hf] at s1 s2
    constructor
    ·simp only [yk3, g1, Option.bind_some, Bool.not_true, cond_false, decide_eq_false hc, s1]
    ·simp only [yk2, g2, Option.bind_some, Bool.not_true, cond_false, decide_eq_false hc, s2]
   | some N =>
    rw [hf] at s1 s2
    obtain ⟨hpN, pre, bs, hr, hno⟩ := List.find?_eq_some_iff_append.1 hf
    have hN : pre = List.range N ∧ N < 60 := by
     have h1 : N = pre.length := by
      have h2 : (List.range 60)[pre.length]? = some N := by rw [hr]; simp
      rw [List.getElem?_range (by have := congrArg List.length hr; simp at this; omega)] at h2
      exact (Option.some.inj h2).symm
     have hlt : pre.length < 60 := by have := congrArg List.length hr; simp at this; omega
     refine ⟨?_, by omega⟩
     have h3 := congrArg (List.take pre.length) hr
     rw [List.take_left', List.take_range] at h3
     ·rw [← h3, h1, Nat.min_eq_left (by omega)]
     ·rfl
    obtain ⟨rfl, hN⟩ := hN
    have hno : ∀ i, i < N → (X (i + 1)).length ≤ 1000 ∧ cst (x, S, F, st) (B (X (i + 1))) < cost := by
     intro i hi
     have h1 := hno i (List.mem_range.2 hi)
     have h1 : p i = false := by simpa using h1
     have h1 : (!decide ((X (i + 1)).length ≤ 1000) || decide (cost ≤ cst (x, S, F, st) (B (X (i + 1))))) = false := h1
     rw [Bool.or_eq_false_iff] at h1
     refine ⟨?_, ?_⟩
     ·have := h1.1
      rw [Bool.not_eq_false'] at this
      exact of_decide_eq_true this
     ·have := of_decide_eq_false h1.2
      omega
    have hpN : (!decide ((X (N + 1)).length ≤ 1000) || decide (cost ≤ cst (x, S, F, st) (B (X (N + 1))))) = true := hpN
    by_cases hl : (X (N + 1)).length ≤ 1000
    ·right
     rw [decide_eq_true hl] at hpN
     have hy : cost ≤ cst (x, S, F, st) (B (X (N + 1))) := of_decide_eq_true hpN
     refine ⟨B t, n, t, l, A, X, N, g2, ⟨hG, by omega, hx, hN, hno, hl, hy⟩, ?_, ?_⟩
     ·simp only [yk3, g1, Option.bind_some, Bool.not_true, cond_false, decide_eq_false hc, s1, if_pos hl]
     ·simp only [yk2, g2, Option.bind_some, Bool.not_true, cond_false, decide_eq_false hc, s2, if_pos hl]
    ·left
     constructor
     ·simp only [yk3, g1, Option.bind_some, Bool.not_true, cond_false, decide_eq_false hc, s1, if_neg hl]
     ·simp only [yk2, g2, Option.bind_some, Bool.not_true, cond_false, decide_eq_false hc, s2, if_neg hl]
end Go.Proofs.YtfdhmmnffahhgaaGreat
