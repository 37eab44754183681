/- The law of finite powers. -/
import Derived.Test.YtogigagfgkfkhaaGreatP81
import Derived.Test.YtogigagfgkfkhaaGreatP88
import Derived.Test.YtogigagfgkfkhaaGreatP65
set_option linter.unusedVariables false
set_option linter.unusedSimpArgs false
namespace Go.Proofs.YtogigagfgkfkhaaGreat
open Go Go.Proofs.YtogigagfgkfkhaaGreat.Am
theorem zu9 {c : List Int} (hc : ∀ x ∈ c, 0 ≤ x ∧ x ≤ 255) : ∃ a, yk6 c = some a ∧ yt9 a := by
 obtain ⟨⟨b, k⟩, p0, s0⟩ := z5y hc
 obtain ⟨⟨x, S, F, l⟩, ⟨b1, k1⟩, p1, t1, s1⟩ := kd1 s0 (by omega)
 refine ⟨(x, S, F, l), ?_, t1.small⟩
 unfold yk6
 rw [p0]
 simp only [Option.bind_some]
 rw [p1]
 rfl
theorem ko2 {a : Aut} {n : Nat} (ha : AutIs a n) (hv : yk4 a = true) (hs : yt9 a) : ∃ e gr ok, yh9 a = some (e, gr) ∧ yi0 a = some (ok && !gr, ok) := by
 obtain ⟨L, ok, hL, e1, e2, e0⟩ := y6c ha hv hs
 exact ⟨(y0y L (zj5 n a.2.1 a.2.2.1)).1, (y0y L (zj5 n a.2.1 a.2.2.1)).2, ok, y2r ha hv hs hL e2, z2u ha hv hs hL e2⟩
theorem za2 (x0 : List Int) (f0 : Fits (.sl (.int .u8)) x0) : yn0 x0 = some true := by
 unfold yn0
 by_cases hx : ((x0.length : Nat) : Int) > 1048576
 ·rw [decide_eq_true hx, cond_true]
 rw [decide_eq_false hx, cond_false]
 obtain ⟨a, d1, hs⟩ := zu9 (km6 f0)
 obtain ⟨⟨is, ok⟩, e1, e2⟩ := z2x hs
 cases ok with
 | false =>
  obtain ⟨x, S, F, st⟩ := a
  rw [d1]
  simp only [Option.bind_some, e1, e2, BEq.rfl, Bool.not_true, Bool.not_false, cond_false, cond_true]
 | true =>
  have hv : yk4 a = true := by
   cases hv : yk4 a with
   | true => rfl
   | false =>
    have hV := yb9 a (yf5 hs).1 (yf5 hs).2
    obtain ⟨x, S, F, l⟩ := a
    unfold yf2 yc6 at e2
    dsimp only at e2
    rw [hV] at e2
    simp only [Option.bind_some, hv, Bool.not_false, cond_true, Option.some.injEq, Prod.mk.injEq] at e2
    exact absurd e2.2 (by decide)
  obtain ⟨n, ha⟩ := y7x hv
  obtain ⟨R, ok', _, p2, hR, hp⟩ := z57 ha hs hv
  obtain ⟨x, S, F, l⟩ := a
  obtain ⟨y, T, G, k⟩ := R
  obtain rfl : x = (n : Int) := ha.st
  cases ok' with
  | false =>
   simp only [yf2, p2, Option.bind_some, Bool.not_false, cond_true, Option.some.injEq, Prod.mk.injEq] at e2
   exact absurd e2.2 (by decide)
  | true =>
  obtain ⟨P, hRe, hvb, hP⟩ := hp rfl
  simp only [Prod.mk.injEq] at hRe
  obtain ⟨rfl, rfl, rfl, rfl⟩ := hRe
  obtain ⟨nR, hb⟩ := y7x hvb
  obtain ⟨e, gr, known, g2, b2⟩ := ko2 hb hvb hR
  have e2' := e2
  simp only [yf2, p2, Option.bind_some, Bool.not_true, cond_false, List.drop_zero, List.take_length, b2, Option.some.injEq, Prod.mk.injEq] at e2'
  obtain ⟨h1, rfl⟩ := e2'
  rw [Bool.true_and] at h1 b2
  subst h1
  cases gr with
  | false =>
   rw [d1]
   simp only [Option.bind_some, e1, e2, p2, g2, b2, List.drop_zero, List.take_length, BEq.rfl, Bool.not_true, Bool.not_false, cond_false, cond_true]
  | true =>
   obtain ⟨n', t, q, A, hG⟩ := kn6 hR g2
   have hb := hG.ha
   have hnn : ((n : Nat) : Int) = (n' : Int) := hb.st
   obtain rfl : n = n' := by omega
   have he := hG.e
   subst he
   have h4 := ha.n4
   have w1 : IntKind.wrap .i64 ((n : Int) + (1 : Int)) = ((n + 1 : Nat) : Int) := by rw [w64 (by omega) (by omega)]; rfl
   obtain ⟨w, hw⟩ := hG.xo (n + 1)
   have hex := z2t (by omega) hw hG.ne hG.len
   rw [d1]
   simp only [Option.bind_some, e1, e2, p2, g2, b2, List.drop_zero, List.take_length, BEq.rfl, Bool.not_true, Bool.not_false, cond_false, cond_true, w1, hex]
   by_cases hl : w.length ≤ 1000
   ·have hxp : xpR w = (B w, true) := by unfold xpR; rw [if_pos hl]
    rw [hxp]
    dsimp only
    rw [cond_true]
    have hsz : (B w).size = w.length := by simp [B, ByteArray.size]
    by_cases h40 : w.length ≤ 40
    ·rw [decide_eq_true (by rw [hsz]; omega), cond_true]
     have hok := xo_word hw hl
     obtain ⟨c, c1, c2⟩ := y6a hR hvb hok
     have c2 : CostIs ((n : Int), T, G, k) w c := c2
     have hnv : c < 1000000 := hG.had (by omega) hw hl c2
     have hq := hG.cost (m := n + 1) (by omega) (by omega) hw hl c2
     rw [Nat.div_self (by omega)] at hq
     obtain ⟨r, f1, f2⟩ := y7y hs hv hok (by omega)
     have f2 : CntIs ((n : Int), T, G, l) w r := f2
     have hne : w ≠ [] := hw.ne (by omega) hG.ne
     obtain ⟨j1, j2⟩ := ko1 ha hs hv hP hb.steps hne hl (fun b hb => hw.ab b hb) f2 c2
     have h0 := f2.1
     have hN : Nv = 1000000 := rfl
     rw [hN] at j1 j2 h0
     have hr : ¬ r = 1000000 := fun h => by have := j1.1 h; omega
     have hc := j2 (by omega)
     have hbe : (r == (1000000 : Int)) = false := by rw [beq_eq_false_iff_ne]; exact hr
     rw [f1]
     simp only [Option.bind_some]
     rw [decide_eq_false (show ¬ r < 2 by omega), cond_false, hbe, cond_false]
    ·rw [decide_eq_false (by rw [hsz]; omega), cond_false]
   ·have hxp : xpR w = ((⟨#[]⟩ : ByteArray), false) := by unfold xpR; rw [if_neg hl]
    rw [hxp]
    rfl
end Go.Proofs.YtogigagfgkfkhaaGreat
