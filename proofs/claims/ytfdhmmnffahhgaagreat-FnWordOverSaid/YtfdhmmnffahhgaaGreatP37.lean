/- Elements that grow: both sides tell the same; the law. -/
import Derived.Test.YtfdhmmnffahhgaaGreatP36
set_option linter.unusedVariables false
set_option linter.unusedSimpArgs false
namespace Go.Proofs.YtfdhmmnffahhgaaGreat
open Go Go.Proofs.YtfdhmmnffahhgaaGreat.Am
theorem z4u {a : Aut} (hs : y2q a) : ∃ r, yr8 a = some r ∧ yg7 a = some r := by
 cases hv : y0g a with
 | false =>
  obtain ⟨e1, e2⟩ := zi9 hv hs
  have e3 := y98 e2
  refine ⟨((⟨#[]⟩ : ByteArray), false), ?_, e3⟩
  obtain ⟨x, S, F, l⟩ := a
  simp only [yr8, e1, Option.bind_some, List.drop_zero, List.take_length]
  rw [yb1]
  simp only [yg0, List.length_nil, show decide ((0 : Int) < ((0 : Nat) : Int)) = false from rfl, cond_false, Option.bind_some]
 | true =>
  obtain ⟨n, ha⟩ := zm8 hv
  obtain ⟨L, ok, hL, e1, e2, e0⟩ := zz3 ha hv hs
  have e3 := zj2 ha hv hs hL e2
  obtain ⟨x, S, F, l⟩ := a
  have hx : x = (n : Int) := ha.st
  subst hx
  have hlen := hL.len
  have g := yr4 (f := yg0) (fun i => (((n : Int), S, F, l, ()), L, (L.length : Int), (i : Int), ())) L.length (fun i => growP n S F (L.getD i el0)) (fun i => Sum.inl ((L.getD i el0).2, true, ())) (Sum.inr ())
   (fun i hi => by
    have hat := hL.at hi
    have hm : L.getD i el0 ∈ L := by rw [yd8 el0 hi]; exact List.getElem_mem hi
    have hb := z4h ha.n4 l ha.S ha.F hs.1 hs.2.1 (hL.el _ hm).2.1
    simp only [yg0, lt_t hi, cond_true, if_pos (in_t hi), Int.toNat_natCast, Nat.zero_add, hat.1, hb, Option.bind_some, List.drop_zero, List.take_length, ya7 hi (show L.length ≤ 9223372036854775807 by omega)]
    unfold growP
    cases btw n (L.getD i el0).1.2 S F == 2 <;> rfl)
   (by simp only [yg0, lt_f, cond_false])
  have g : ya4 yg0 (((n : Int), S, F, l, ()), L, (L.length : Int), (0 : Int), ()) = _ := g
  refine ⟨y8l L (growP n S F), ?_, e3⟩
  simp only [yr8, e1, Option.bind_some, List.drop_zero, List.take_length]
  rw [g]
  unfold y8l
  cases (List.range L.length).find? fun i => growP n S F (L.getD i el0) <;> rfl
end Go.Proofs.YtfdhmmnffahhgaaGreat
