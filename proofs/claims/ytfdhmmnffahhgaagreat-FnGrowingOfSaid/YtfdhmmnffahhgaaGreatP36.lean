/- Bounded costs and elements that grow between two states: both sides tell the same; the laws. -/
import Derived.Test.YtfdhmmnffahhgaaGreatP35
set_option linter.unusedVariables false
set_option linter.unusedSimpArgs false
namespace Go.Proofs.YtfdhmmnffahhgaaGreat
open Go Go.Proofs.YtfdhmmnffahhgaaGreat.Am
def growP (n : Nat) (S F : List Int) (e : Elt) : Bool := btw n e.1.2 S F == 2
theorem growingOf_is {a : Aut} {n : Nat} (ha : AutIs a n) (hv : autOk a = true) (hs : Small a) {L : List Elt} {ok : Bool} (hL : LOk n L) (hE : impl_ElementsOf a = some (L, ok)) : impl_GrowingOf a = some (firstOf L (growP n a.2.1 a.2.2.1)) := by
 obtain ⟨x, S, F, l⟩ := a
 have hx : x = (n : Int) := ha.st
 subst hx
 have hb := fun (e : Elt) (he : e ∈ L) => impl_between ha.n1 ha.n4 l ha.S ha.F hs.1 hs.2.1 (hL.el e he).2.1 hv
 simp only [impl_GrowingOf]
 rw [firstWith_is hE hL.len (p := growP n S F) (fun e he => by
  have h1 := (hL.el e he).1
  have h2 := hb e he
  obtain ⟨⟨m, B⟩, t⟩ := e
  have h1 : m = (n : Int) := h1
  subst h1
  have h2 : impl_GradeBetween ((n : Int), S, F, l) ((n : Int), B) = some (btw n B S F) := h2
  show impl_GrowingOf_1 ((n : Int), B) ((n : Int), S, F, l) = _
  simp only [impl_GrowingOf_1, h2, Option.bind_some]
  rfl)]
 rfl
theorem growingOf_not {a : Aut} (hE : impl_ElementsOf a = some ([], false)) : impl_GrowingOf a = some ((⟨#[]⟩ : ByteArray), false) := by
 obtain ⟨x, S, F, l⟩ := a
 simp only [impl_GrowingOf]
 rw [firstWith_is hE (by simp) (p := fun _ => false) (fun e he => by cases he)]
 rfl
theorem bounded_same {a : Aut} (hs : Small a) : ∃ r, spec_IsBounded a = some r ∧ impl_IsBounded a = some r := by
 cases hv : autOk a with
 | false =>
  obtain ⟨e1, e2⟩ := elements_not hv hs
  have e3 := growingOf_not e2
  obtain ⟨x, S, F, l⟩ := a
  refine ⟨(false, false), ?_, ?_⟩
  ·simp only [spec_IsBounded, e1, Option.bind_some, Bool.not_false, cond_true]
  ·simp only [impl_IsBounded, e2, e3, Option.bind_some, cond_false]
 | true =>
  obtain ⟨n, ha⟩ := autOk_is hv
  obtain ⟨L, ok, hL, e1, e2, e0⟩ := elements_valid ha hv hs
  have e3 := growingOf_is ha hv hs hL e2
  obtain ⟨x, S, F, l⟩ := a
  have hx : x = (n : Int) := ha.st
  subst hx
  have hlen := hL.len
  have g := loop_find (f := spec_IsBounded_l5) (fun i => (((n : Int), S, F, l, ()), L, (L.length : Int), (i : Int), ())) L.length (fun i => growP n S F (L.getD i el0)) (fun i => Sum.inl (false, true, ())) (Sum.inr ())
   (fun i hi => by
    have hat := hL.at hi
    have hm : L.getD i el0 ∈ L := by rw [getD_get el0 hi]; exact List.getElem_mem hi
    have hb := spec_between ha.n4 l ha.S ha.F hs.1 hs.2.1 (hL.el _ hm).2.1
    simp only [spec_IsBounded_l5, lt_t hi, cond_true, if_pos (in_t hi), Int.toNat_natCast, Nat.zero_add, hat.1, hb, Option.bind_some, List.drop_zero, List.take_length, w64_succ hi (show L.length ≤ 9223372036854775807 by omega)]
    unfold growP
    cases btw n (L.getD i el0).1.2 S F == 2 <;> rfl)
   (by simp only [spec_IsBounded_l5, lt_f, cond_false])
  have g : loopF spec_IsBounded_l5 (((n : Int), S, F, l, ()), L, (L.length : Int), (0 : Int), ()) = _ := g
  cases ok with
  | false =>
   have := e0 rfl
   subst this
   refine ⟨(false, false), ?_, ?_⟩
   ·simp only [spec_IsBounded, e1, Option.bind_some, Bool.not_false, cond_true]
   ·simp only [impl_IsBounded, e2, e3, Option.bind_some, cond_false]
  | true =>
   refine ⟨(!(firstOf L (growP n S F)).2, true), ?_, ?_⟩
   ·simp only [spec_IsBounded, e1, Option.bind_some, Bool.not_true, cond_false, List.drop_zero, List.take_length]
    rw [g]
    unfold firstOf
    cases (List.range L.length).find? fun i => growP n S F (L.getD i el0) <;> rfl
   ·simp only [impl_IsBounded, e2, e3, Option.bind_some, cond_true]
end Go.Proofs.YtfdhmmnffahhgaaGreat
