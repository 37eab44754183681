/- The law of words over a cost. -/
import Derived.Test.YtfdhmmnffahhgaaGreatP79
import Derived.Test.YtfdhmmnffahhgaaGreatP54
set_option linter.unusedVariables false
set_option linter.unusedSimpArgs false
namespace Go.Proofs.YtfdhmmnffahhgaaGreat
open Go Go.Proofs.YtfdhmmnffahhgaaGreat.Am
theorem z65 {c : List Int} (hc : ∀ x ∈ c, 0 ≤ x ∧ x ≤ 255) : ∃ a v, yp6 c = some (a, v) ∧ y2q a := by
 obtain ⟨⟨b, k⟩, p0, s0⟩ := z9r hc
 obtain ⟨⟨x, S, F, l⟩, ⟨b1, k1⟩, p1, t1, s1⟩ := kt3 s0 (by omega)
 obtain ⟨v, _, p2⟩ := z05 s1 (by omega) (l := List.take 7 (List.drop 0 [(2 : Int), (1 : Int), (3 : Int), (0 : Int), (4 : Int), (-1 : Int), (900000 : Int)])) (by decide) (by decide)
 refine ⟨(x, S, F, l), v, ?_, t1.small⟩
 unfold yp6
 rw [p0]
 simp only [Option.bind_some]
 rw [p1]
 simp only [Option.bind_some]
 rw [p2]
 rfl
theorem z4v (x0 : List Int) (f0 : Fits (.sl (.int .u8)) x0) : yq2 x0 = some true := by
 unfold yq2
 by_cases hx : ((x0.length : Nat) : Int) > 1048576
 ·rw [decide_eq_true hx, cond_true]
 rw [decide_eq_false hx, cond_false]
 obtain ⟨a, cost, d1, hs⟩ := z65 (k0w f0)
 rcases z64 hs cost with ⟨h1, h2⟩ | ⟨e, n, t, l, A, X, N, g2, hO, h1, h2⟩
 ·obtain ⟨x, S, F, st⟩ := a
  rw [d1]
  simp only [Option.bind_some, h1, h2, BEq.rfl, Bool.not_true, Bool.not_false, cond_false, cond_true]
 ·have hG := hO.g
  have he := hG.e
  subst he
  have i1 : ∀ i, ye4 (B t) ((i + 1 : Nat) : Int) = some (xpR (X (i + 1))) := fun i => zw0 (by omega) (hO.hx (i + 1)) hG.ne hG.len
  obtain ⟨_, hcw, hci⟩ := z8h hs hG.v (z2r (hO.hx (N + 1)) hO.len)
  have hlt : cst a (B (X (N + 1))) < Nv := hG.had (by omega) (hO.hx (N + 1)) hO.len hci
  have hlt : cst a (B (X (N + 1))) < 1000000 := hlt
  have hyes := hO.yes
  have hk : ∀ i, i < N → yl8 a (B (X (i + 1))) = some (cst a (B (X (i + 1)))) := fun i hi => (z8h hs hG.v (z2r (hO.hx _) (hO.no i hi).1)).2.1
  have hno := hO.no
  have hlen := hO.len
  obtain ⟨x, S, F, st⟩ := a
  generalize hcc : cst (x, S, F, st) (B (X (N + 1))) = c at hcw hlt hyes
  obtain ⟨r, l1, l2⟩ := y90 (f := yd7) 6 (fun i (_ : Unit) => ((x, S, F, st, ()), cost, B (X (N + 1)), B t, true, c, ((i + 1 : Nat) : Int), ())) (fun i _ => i ≤ N) (fun r => r = Sum.inl (cost, true, c, ()))
   (fun i _ hi hN => by
    have hle : decide (((i + 1 : Nat) : Int) ≤ 6) = true := decide_eq_true (by omega)
    by_cases hiN : i = N
    ·subst hiN
     right
     have hxp : xpR (X (i + 1)) = (B (X (i + 1)), true) := by unfold xpR; rw [if_pos hlen]
     refine ⟨_, ?_, rfl⟩
     simp only [yd7, hle, cond_true, i1 i, Option.bind_some, hxp, Bool.not_true, cond_false, BEq.rfl]
    ·have hiN : i < N := by omega
     obtain ⟨k1, k2⟩ := hno i hiN
     have hxp : xpR (X (i + 1)) = (B (X (i + 1)), true) := by unfold xpR; rw [if_pos k1]
     cases hb : ((ByteArray.toList (B (X (i + 1)))) == (ByteArray.toList (B (X (N + 1))))) with
     | true =>
      right
      refine ⟨_, ?_, rfl⟩
      simp only [yd7, hle, cond_true, i1 i, Option.bind_some, hxp, Bool.not_true, cond_false, hb]
     | false =>
      left
      refine ⟨(), ?_, by omega⟩
      simp only [yd7, hle, cond_true, i1 i, Option.bind_some, hxp, Bool.not_true, cond_false, hb, hk i hiN, decide_eq_false (show ¬ cst (x, S, F, st) (B (X (i + 1))) ≥ cost by omega)]
      rw [w64 (by omega) (by omega)]
      rfl)
   (fun _ _ => ⟨_, by
    have hle : decide (((6 + 1 : Nat) : Int) ≤ 6) = false := rfl
    simp only [yd7, hle, cond_false], rfl⟩)
   () (Nat.zero_le _)
  have l1 : ya4 yd7 ((x, S, F, st, ()), cost, B (X (N + 1)), B t, true, c, (1 : Int), ()) = some r := l1
  subst l2
  rw [d1]
  simp only [Option.bind_some, h1, h2, BEq.rfl, Bool.not_true, cond_false, g2, hcw, l1, cond_true, decide_eq_true (show c ≥ cost from hyes), decide_eq_true hlt]
end Go.Proofs.YtfdhmmnffahhgaaGreat
