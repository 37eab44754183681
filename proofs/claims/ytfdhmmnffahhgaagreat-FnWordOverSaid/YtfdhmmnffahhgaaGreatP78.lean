/- What a growing expression is, and its expansions. -/
import Derived.Test.YtfdhmmnffahhgaaGreatP77
import Derived.Test.YtfdhmmnffahhgaaGreatP37
set_option linter.unusedVariables false
set_option linter.unusedSimpArgs false
namespace Go.Proofs.YtfdhmmnffahhgaaGreat
open Go Go.Proofs.YtfdhmmnffahhgaaGreat.Am
theorem B_inj {a b : List UInt8} (h : B a = B b) : a = b := by
 have := congrArg ByteArray.toList h
 rwa [y4l, y4l] at this
theorem xo_det {m : Nat} {t w : List UInt8} {l : Pts} (h : Xo m t l w) : ∀ {t' w' : List UInt8}, Xo m t' l w' → w = w' := by
 induction h with
 | nil => intro t' w' h'; cases h'; rfl
 | @lt c t w l hc _ ih =>
  intro t' w' h'
  generalize hL : (B [c], PT.mk []) :: l = L at h'
  cases h' with
  | nil => cases hL
  | @lt c' t1 w1 l1 _ h2 =>
   injection hL with e1 e2
   have e3 := B_inj (Prod.mk.inj e1).1
   injection e3 with e4 _
   subst e2 e4
   rw [ih h2]
  | @rp t1 t2 w1 w2 l1 l2 h1 hn h2 =>
   injection hL with e1 e2
   have e3 := B_inj (Prod.mk.inj e1).1
   cases e3
 | @rp t1 t2 w1 w2 l1 l2 _ hn _ ih1 ih2 =>
  intro t' w' h'
  generalize hL : (B [], PT.mk l1) :: l2 = L at h'
  cases h' with
  | nil => cases hL
  | @lt c' t1 w1 l1 _ h2 =>
   injection hL with e1 e2
   have e3 := B_inj (Prod.mk.inj e1).1
   cases e3
  | @rp t1' t2' w1' w2' l1' l2' h1 hn' h2 =>
   injection hL with e1 e2
   have e3 := (Prod.mk.inj e1).2
   injection e3 with e4
   subst e2 e4
   rw [ih1 h1, ih2 h2]
/-- a growing expression -/
structure Grows (a : Aut) (e : ByteArray) (n : Nat) (t : List UInt8) (l : Pts) (A : List Int) : Prop where
 v : y0g a = true
 ha : AutIs a n
 e : e = B t
 vo : Vo n a.2.2.2 t l A
 len : t.length ≤ 120
 btw : btw n A a.2.1 a.2.2.1 = 2
 ok : GOk n A
theorem k0z {a : Aut} (hs : y2q a) {e : ByteArray} (h : yg7 a = some (e, true)) : ∃ n t l A, Grows a e n t l A := by
 cases hv : y0g a with
 | false =>
  obtain ⟨_, e2⟩ := zi9 hv hs
  rw [y98 e2] at h
  cases h
 | true =>
  obtain ⟨n, ha⟩ := zm8 hv
  obtain ⟨L, ok, hL, e1, e2, e0, _, hX⟩ := zv5 ha hv hs
  rw [zj2 ha hv hs hL e2] at h
  obtain ⟨x, hx, hp, he⟩ := z4l (Option.some.inj h)
  obtain ⟨t, l, h1, h2⟩ := hX x hx
  have h3 := (hL.el x hx).2.2
  rw [h1] at h3 he
  exact ⟨n, t, l, x.1.2, hv, ha, he.symm, h2, h3, eq_of_beq hp, (hL.el x hx).2.1⟩
section
variable {a : Aut} {e : ByteArray} {n : Nat} {t : List UInt8} {l : Pts} {A : List Int} (h : Grows a e n t l A)
include h
theorem Grows.ne : l ≠ [] := (h.vo.ok h.ha).2.1
theorem Grows.xo (m : Nat) : ∃ w, Xo m t l w := fo_xo m (h.vo.ok h.ha).1
omit h in
theorem z2r {m : Nat} {w : List UInt8} (hw : Xo m t l w) (hl : w.length ≤ 1000) : y2v (B w) = true := AB.ok hw.ab hl
theorem Grows.had {m : Nat} (hm : 1 ≤ m) {w : List UInt8} (hw : Xo m t l w) (hl : w.length ≤ 1000) {c : Int} (hc : CostIs a w c) : c < Nv := by
 obtain ⟨w', h1, h2⟩ := vo_run h.ha hm h.vo
 obtain rfl := xo_det hw h1
 exact (z4s h.ha h.btw hl hc).1 h2
theorem Grows.cost {m : Nat} (hm : n + 1 ≤ m) (hm2 : m ≤ 1000000) {w : List UInt8} (hw : Xo m t l w) (hl : w.length ≤ 1000) {c : Int} (hc : CostIs a w c) : ((m / (n + 1) : Nat) : Int) ≤ c := by
 obtain ⟨w', h1, h2⟩ := vo_gx h.ha hm h.vo
 obtain rfl := xo_det hw h1
 refine (z4s h.ha h.btw hl hc).2 _ h2.p1 ?_
 have : m / (n + 1) ≤ m := Nat.div_le_self _ _
 show _ ≤ (1000000 : Int)
 omega
end
end Go.Proofs.YtfdhmmnffahhgaaGreat
