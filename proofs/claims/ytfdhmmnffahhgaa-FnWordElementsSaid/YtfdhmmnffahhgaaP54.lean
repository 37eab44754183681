/- Draws of automata with few states; the law of what grows between states. -/
import Derived.Test.YtfdhmmnffahhgaaP42
import Derived.Test.YtfdhmmnffahhgaaP50
set_option linter.unusedVariables false
set_option linter.unusedSimpArgs false
namespace Go.Proofs.Ytfdhmmnffahhgaa
open Go Go.Proofs.Ytfdhmmnffahhgaa.Am
theorem l8Draw_is {N : Int} {d : Dr} (h : DrOk N d) (hN : N ≤ 400) : ∃ a d', spec_l8Draw d = some (a, d', ()) ∧ Tinier a ∧ DrOk (N + 5600) d' := by
 obtain ⟨b, k⟩ := d
 obtain ⟨r0, p0, _, _, _⟩ := pick_is h (by omega) (n := 3) (by omega)
 have s1 := h.next
 unfold spec_l8Draw
 dsimp only
 rw [p0]
 simp only [Option.bind_some]
 cases (r0 == 0) with
 | true =>
  obtain ⟨⟨x, S, F, l⟩, ⟨b1, k1⟩, p1, t1, s2⟩ := l3Draw_is s1 (by omega) (q := 3) (by omega) (by omega)
  obtain ⟨⟨x', S', F', l'⟩, ⟨b2, k2⟩, p2, t2, s3⟩ := l3Bad_is s2 (by omega) t1
  refine ⟨(x', S', F', l'), (b2, k2), ?_, t2, s3.mono (by omega)⟩
  rw [cond_true, p1]
  simp only [Option.bind_some, tk_id, p2]
 | false =>
  obtain ⟨⟨x, S, F, l⟩, ⟨b1, k1⟩, p1, t1, s2⟩ := l3Draw_is s1 (by omega) (q := 2) (by omega) (by omega)
  obtain ⟨⟨x', S', F', l'⟩, ⟨b2, k2⟩, p2, t2, s3⟩ := l3Bad_is s2 (by omega) t1
  refine ⟨(x', S', F', l'), (b2, k2), ?_, t2, s3.mono (by omega)⟩
  rw [cond_false, p1]
  simp only [Option.bind_some, tk_id, p2]
end Go.Proofs.Ytfdhmmnffahhgaa
