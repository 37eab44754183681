/- Bounded costs and elements that grow between two states: both sides tell the same; the laws. -/
import Derived.Test.YtfdhmmnffahhgaaGreatP35
set_option linter.unusedVariables false
set_option linter.unusedSimpArgs false
namespace Go.Proofs.YtfdhmmnffahhgaaGreat
open Go Go.Proofs.YtfdhmmnffahhgaaGreat.Am
def growP (n : Nat) (S F : List Int) (e : Elt) : Bool := btw n e.1.2 S F == 2
theorem zj2 {a : Aut} {n : Nat} (ha : AutIs a n) (hv : y0g a = true) (hs : y2q a) {L : List Elt} {ok : Bool} (hL : LOk n L) (hE : ye0 a = some (L, ok)) : yg7 a = some (y8l L (growP n a.2.1 a.2.2.1)) := by
 obtain ⟨x, S, F, l⟩ := a
 have hx : x = (n : Int) := ha.st
 subst hx
 have hb := fun (e : Elt) (he : e ∈ L) => z4i ha.n1 ha.n4 l ha.S ha.F hs.1 hs.2.1 (hL.el e he).2.1 hv
 simp only [yg7]
 rw [zj0 hE hL.len (p := growP n S F) (fun e he => by
  have h1 := (hL.el e he).1
  have h2 := hb e he
  obtain ⟨⟨m, B⟩, t⟩ := e
  have h1 : m = (n : Int) := h1
  subst h1
  have h2 : yn1 ((n : Int), S, F, l) ((n : Int), B) = some (btw n B S F) := h2
  show yr1 ((n : Int), B) ((n : Int), S, F, l) = _
  simp only [yr1, h2, Option.bind_some]
  rfl)]
 rfl
theorem y98 {a : Aut} (hE : ye0 a = some ([], false)) : yg7 a = some ((⟨#[]⟩ : ByteArray), false) := by
 obtain ⟨x, S, F, l⟩ := a
 simp only [yg7]
 rw [zj0 hE (by simp) (p := fun _ => false) (fun e he => by cases he)]
 rfl
end Go.Proofs.YtfdhmmnffahhgaaGreat
