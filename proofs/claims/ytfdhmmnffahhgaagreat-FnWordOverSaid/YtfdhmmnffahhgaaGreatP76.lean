/- Expansions of expressions: the word in which repeated parts stand so many times. -/
import Derived.Test.YtfdhmmnffahhgaaGreatP75
import Derived.Test.YtfdhmmnffahhgaaGreatP50
set_option linter.unusedVariables false
set_option linter.unusedSimpArgs false
namespace Go.Proofs.YtfdhmmnffahhgaaGreat
open Go Go.Proofs.YtfdhmmnffahhgaaGreat.Am
/-- a text, its parts, and the word in which repeated parts stand m times -/
inductive Xo (m : Nat) : List UInt8 → Pts → List UInt8 → Prop
 | nil : Xo m [] [] []
 | lt {c : UInt8} {t w : List UInt8} {l : Pts} : (c = 97 ∨ c = 98) → Xo m t l w → Xo m (c :: t) ((B [c], PT.mk []) :: l) (c :: w)
 | rp {t1 t2 w1 w2 : List UInt8} {l1 l2 : Pts} : Xo m t1 l1 w1 → l1 ≠ [] → Xo m t2 l2 w2 → Xo m (40 :: (t1 ++ 41 :: 35 :: t2)) ((B [], PT.mk l1) :: l2) (rep m w1 ++ w2)
theorem Xo.fo {m : Nat} {t w : List UInt8} {l : Pts} (h : Xo m t l w) : Fo t l := by
 induction h with
 | nil => exact .nil
 | lt hc _ ih => exact .lt hc ih
 | rp _ hn _ ih1 ih2 => exact .rp ih1 hn ih2
theorem fo_xo (m : Nat) {t : List UInt8} {l : Pts} (h : Fo t l) : ∃ w, Xo m t l w := by
 induction h with
 | nil => exact ⟨_, .nil⟩
 | lt hc _ ih => obtain ⟨w, h⟩ := ih; exact ⟨_, .lt hc h⟩
 | rp _ hn _ ih1 ih2 =>
  obtain ⟨w1, h1⟩ := ih1
  obtain ⟨w2, h2⟩ := ih2
  exact ⟨_, .rp h1 hn h2⟩
theorem Xo.app {m : Nat} {t t' w w' : List UInt8} {l l' : Pts} (h : Xo m t l w) (h' : Xo m t' l' w') : Xo m (t ++ t') (l ++ l') (w ++ w') := by
 induction h with
 | nil => exact h'
 | lt hc _ ih => exact .lt hc ih
 | rp h1 hn _ _ ih =>
  have := Xo.rp h1 hn ih
  simpa using this
theorem Xo.ab {m : Nat} {t w : List UInt8} {l : Pts} (h : Xo m t l w) : ∀ b ∈ w, b = 97 ∨ b = 98 := by
 induction h with
 | nil => intro b hb; cases hb
 | lt hc _ ih =>
  intro b hb
  rcases List.mem_cons.1 hb with rfl | hb
  ·exact hc
  ·exact ih b hb
 | rp _ _ _ ih1 ih2 =>
  intro b hb
  rcases List.mem_append.1 hb with hb | hb
  ·unfold rep at hb
   obtain ⟨x, hx, hb⟩ := List.mem_flatten.1 hb
   rw [List.eq_of_mem_replicate hx] at hb
   exact ih1 b hb
  ·exact ih2 b hb
theorem Xo.ne {m : Nat} (hm : 1 ≤ m) {t w : List UInt8} {l : Pts} (h : Xo m t l w) : l ≠ [] → w ≠ [] := by
 induction h with
 | nil => intro h; exact absurd rfl h
 | lt _ _ _ => intro _; simp
 | @rp t1 t2 w1 w2 l1 l2 h1 hn _ ih1 _ =>
  intro _ hw
  have h3 := (List.append_eq_nil_iff.1 hw).1
  have h4 : (rep m w1).length = 0 := by rw [h3]; rfl
  rw [zg8] at h4
  rcases Nat.mul_eq_zero.1 h4 with h5 | h5
  ·omega
  ·exact ih1 hn (List.length_eq_zero_iff.1 h5)
/-- the value of a text tells what its expansions cost -/
theorem vo_gx {a : Aut} {n : Nat} (ha : AutIs a n) {m : Nat} (hm : n + 1 ≤ m) {t : List UInt8} {l : Pts} {A : List Int} (h : Vo n a.2.2.2 t l A) : ∃ w, Xo m t l w ∧ GX n a.2.2.2 ((m / (n + 1) : Nat) : Int) w A := by
 induction h with
 | @lt c hc =>
  refine ⟨[c], .lt hc .nil, ?_⟩
  obtain ⟨M, h1, h2⟩ := y2k (c := B [c]) ha.st ha.n1 ha.n4 ha.len ha.ok
  have h3 := y0m ha (B [c])
  rw [h1] at h3
  have h3 : M = yl4 (B [c]) n a.2.2.2 a.2.2.2.length := (Prod.mk.inj (Option.some.inj h3)).2
  subst h3
  rw [y4l] at h2
  exact z4q ha.steps (z8n ha.steps h2) _
 | rp h1 h2 ih =>
  obtain ⟨w, hw, hg⟩ := ih
  refine ⟨rep m w ++ [], ?_, ?_⟩
  ·exact .rp hw (h1.ok ha).2.1 .nil
  ·rw [List.append_nil]
   exact gx_stab ha.steps h2 hg hm rfl
 | cat h1 h2 ih1 ih2 =>
  obtain ⟨w1, hw1, hg1⟩ := ih1
  obtain ⟨w2, hw2, hg2⟩ := ih2
  exact ⟨w1 ++ w2, hw1.app hw2, gx_mul ha.steps hg1 hg2⟩
/-- and where it is no matrix without words, that they have runs -/
theorem vo_run {a : Aut} {n : Nat} (ha : AutIs a n) {m : Nat} (hm : 1 ≤ m) {t : List UInt8} {l : Pts} {A : List Int} (h : Vo n a.2.2.2 t l A) : ∃ w, Xo m t l w ∧ ∀ i k, In n i → In n k → en n A i k ≤ 2 → ∃ c, Run a.2.2.2 w i k c := by
 induction h with
 | @lt c hc =>
  obtain ⟨M, h1, h2⟩ := y2k (c := B [c]) ha.st ha.n1 ha.n4 ha.len ha.ok
  have h3 := y0m ha (B [c])
  rw [h1] at h3
  have h3 : M = yl4 (B [c]) n a.2.2.2 a.2.2.2.length := (Prod.mk.inj (Option.some.inj h3)).2
  subst h3
  rw [y4l] at h2
  exact ⟨[c], .lt hc .nil, (z4q ha.steps (z8n ha.steps h2) 0).ex⟩
 | @rp t l E h1 h2 ih =>
  obtain ⟨w, hw, hg⟩ := ih
  refine ⟨rep m w ++ [], .rp hw (h1.ok ha).2.1 .nil, fun i k hi hk h => ?_⟩
  rw [List.append_nil]
  obtain ⟨q, hq, h3, h4, h5⟩ := (za0 hi hk (by omega)).1 h
  have h6 := z06 h2 (show (2 : Int) ≤ 2 by omega) hi hq hk h3 h5
  have runs : ∀ p : Nat, 1 ≤ p → ∀ i k, In n i → In n k → en n E i k ≤ 2 → ∃ c, Run a.2.2.2 (rep p w) i k c := by
   intro p
   induction p with
   | zero => intro h; exact absurd h (by omega)
   | succ p ihp =>
    intro _ i k hi hk h1
    rcases Nat.eq_zero_or_pos p with h0 | h0
    ·subst h0
     obtain ⟨c, hc⟩ := hg i k hi hk h1
     refine ⟨c, ?_⟩
     rw [yy7, show rep 0 w = [] from rfl, List.append_nil]
     exact hc
    ·have hi' := hi
     have hk' := hk
     unfold In at hi' hk'
     have h2' : (gmul n E E).getD (i.toNat * n + k.toNat) 0 ≤ 2 := by rw [h2]; exact h1
     obtain ⟨j, hj, h3, h4⟩ := (zg7 (show i.toNat < n by omega) (show k.toNat < n by omega) (by omega)).1 h2'
     have hj' : In n (j : Int) := ⟨by omega, by omega⟩
     obtain ⟨c1, r1⟩ := hg i (j : Int) hi hj' (by unfold en; rw [Int.toNat_natCast]; exact h3)
     obtain ⟨c2, r2⟩ := ihp h0 (j : Int) k hj' hk (by unfold en; rw [Int.toNat_natCast]; exact h4)
     rw [yy7]
     exact ⟨_, run_app.2 ⟨_, c1, c2, r1, r2, rfl⟩⟩
  exact runs m hm i k hi hk h6
 | @cat t t' l l' A A' h1 h2 ih1 ih2 =>
  obtain ⟨w1, hw1, hg1⟩ := ih1
  obtain ⟨w2, hw2, hg2⟩ := ih2
  refine ⟨w1 ++ w2, hw1.app hw2, fun i k hi hk h => ?_⟩
  have hi' := hi
  have hk' := hk
  unfold In at hi' hk'
  obtain ⟨j, hj, h3, h4⟩ := (zg7 (show i.toNat < n by omega) (show k.toNat < n by omega) (by omega)).1 h
  obtain ⟨c1, r1⟩ := hg1 i (j : Int) hi ⟨by omega, by omega⟩ (by unfold en; rw [Int.toNat_natCast]; exact h3)
  obtain ⟨c2, r2⟩ := hg2 (j : Int) k ⟨by omega, by omega⟩ hk (by unfold en; rw [Int.toNat_natCast]; exact h4)
  exact ⟨_, run_app.2 ⟨_, c1, c2, r1, r2, rfl⟩⟩
/-- runs of short words cost little -/
theorem z4r {n : Int} {l : List Stp} (hl : ∀ s ∈ l, StepIs n s) : ∀ {w : List UInt8} {i k c : Int}, Run l w i k c → c ≤ 3 * w.length
 | [], i, k, c, h => by simp only [Run] at h; simp; omega
 | b :: w, i, k, c, h => by
  simp only [Run] at h
  obtain ⟨s, h1, _, _, c', h3, rfl⟩ := h
  have := z4r hl h3
  have := (hl s h1).c1
  simp only [List.length_cons]
  omega
/-- a growing text's expansions are had, and cost much -/
theorem z4s {a : Aut} {n : Nat} (ha : AutIs a n) {A : List Int} (hA : btw n A a.2.1 a.2.2.1 = 2) {w : List UInt8} (hw : w.length ≤ 1000) {c : Int} (hc : CostIs a w c) :
  ((∀ i k, In n i → In n k → en n A i k ≤ 2 → ∃ c, Run a.2.2.2 w i k c) → c < Nv) ∧ (∀ Q : Int, (∀ i k c, In n i → In n k → Run a.2.2.2 w i k c → c < Q → en n A i k ≤ 1) → Q ≤ Nv → Q ≤ c) := by
 constructor
 ·intro hex
  obtain ⟨i, hi, k, hk, h1⟩ : ∃ i ∈ a.2.1, ∃ k ∈ a.2.2.1, A.getD (i.toNat * n + k.toNat) 0 ≤ 2 := by
   apply Classical.byContradiction
   intro hno
   have := (btw_le (n := n) (A := A) a.2.1 a.2.2.1 3).2 ⟨by omega, fun i hi k hk => by
    by_cases c : 3 ≤ A.getD (i.toNat * n + k.toNat) 0
    ·exact c
    ·exact absurd ⟨i, hi, k, hk, by omega⟩ hno⟩
   omega
  obtain ⟨x, hx⟩ := hex i k (ha.S i hi) (ha.F k hk) h1
  have h2 := z4r ha.steps hx
  have h3 := ((hc.2 c).1 (Int.le_refl _)).2 i hi k hk x hx
  show c < 1000000
  omega
 ·intro Q hQ hQN
  refine (hc.2 Q).2 ⟨hQN, fun i hi k hk x hx => ?_⟩
  by_cases h : Q ≤ x
  ·exact h
  ·have h1 := hQ i k x (ha.S i hi) (ha.F k hk) hx (by omega)
   have h2 := ((btw_le (n := n) (A := A) a.2.1 a.2.2.1 2).1 (by omega)).2 i hi k hk
   unfold en at h1
   omega
end Go.Proofs.YtfdhmmnffahhgaaGreat
