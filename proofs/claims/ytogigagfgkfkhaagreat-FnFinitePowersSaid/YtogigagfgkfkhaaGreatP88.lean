/- The law of the automaton of factors. -/
import Derived.Test.YtogigagfgkfkhaaGreatP87
import Derived.Test.YtogigagfgkfkhaaGreatP40
set_option linter.unusedVariables false
set_option linter.unusedSimpArgs false
namespace Go.Proofs.YtogigagfgkfkhaaGreat
open Go Go.Proofs.YtogigagfgkfkhaaGreat.Am
/-! ### the turned automaton -/
/-! ### useful states -/
/-! ### two automata that are the same -/
/-- the automaton of factors, and what its steps are -/
theorem z57 {a : Aut} {n : Nat} (ha : AutIs a n) (hs : yt9 a) (hv : yk4 a = true) : ∃ R ok, ye4 a = some (R, ok) ∧ yc6 a = some (R, ok) ∧ yt9 R ∧ (ok = true → ∃ P, R = (a.1, a.2.1, a.2.2.1, P) ∧ yk4 R = true ∧ Pow a.2.1 a.2.2.1 a.2.2.2 P) := by
 have hV := yb9 a (yf5 hs).1 (yf5 hs).2
 have hown := y78 hs
 have hsc := z1b hs hv
 have hst0 := ha.steps
 obtain ⟨x, S, F, l⟩ := a
 obtain ⟨h1, h2, h3⟩ := hs
 simp only at h1 h2 h3
 have hst0 : ∀ s ∈ l, StepIs (n : Int) s := hst0
 have hsc : yf7 (x, S, F, l) 0 = some ((x, S, F, l.map zs), true) := hsc
 obtain ⟨q1, q2, q3, q4, q5⟩ := y2c hv
 have hlz : (l.map zs).length = l.length := List.length_map _
 have h0 : IP (l.map zs) (l.map zs) := by
  refine ⟨List.Perm.refl _, ?_, ?_⟩
  ·exact z06 (y9d q4)
  ·intro s hs
   obtain ⟨t, _, rfl⟩ := List.mem_map.1 hs
   exact Int.zero_le_ofNat 1
 have hall := h0.all (S := S) (F := F) (l := l)
 have hst := zp4 (l := l) (by omega) (φ := fun y1 => yn9 y1.1) (z := zs) (fun s => rfl)
 have hi := z4k (x := x) (S := S) (F := F) (l := l) h1 h2 q3 (l.map zs) (by omega)
 have hsp := z4l (x := x) (S := S) (F := F) (l := l) h1 h2 (L := l.map zs) (by omega) (I := l.map zs) (P := l.map zs) (by omega) h0
 rw [ke1] at hsp
 have hlen : (allI S F (l.map zs) l).length ≤ 24 + 24 * 1048576 := by
  have := y77 (S := S) (F := F) (I := l.map zs) l l.length (Nat.le_refl _)
  rw [List.take_length] at this
  have hm : l.length * F.length ≤ 24 * 1048576 := Nat.mul_le_mul q3 h2
  omega
 have hm := kd7 (x := x) (S := S) (F := F) q1 q2 hall.srt hall.perm h1 h2 (by omega)
 have hpow := pow_is (S := S) (F := F) hst0 hall.perm
 have hV2 := yd8 (x, S, F, allP S F (l.map zs) l) (show S.length ≤ _ by omega) (show F.length ≤ _ by omega)
 generalize allP S F (l.map zs) l = P at hsp hm hV2 hpow
 have hspec : ye4 (x, S, F, l) = some (if yk4 (x, S, F, P) = true then ((x, S, F, P), true) else (((0 : Int), [], [], []), false)) := by
  unfold ye4
  dsimp only
  rw [hown]
  simp only [Option.bind_some, List.drop_zero, List.take_length, hsc, Bool.not_true, cond_false, hsp]
  simp only [yw1, hV2, Option.bind_some]
  cases yk4 (x, S, F, P) <;> rfl
 have himpl : yc6 (x, S, F, l) = some (if yk4 (x, S, F, P) = true then ((x, S, F, P), true) else (((0 : Int), [], [], []), false)) := by
  unfold yc6
  dsimp only
  rw [hV]
  simp only [Option.bind_some, hv, Bool.not_true, cond_false, hst, List.drop_zero, List.take_length, hi, hm]
 rw [hspec, himpl]
 cases hP : yk4 (x, S, F, P) with
 | true =>
  obtain ⟨_, _, p3, _, _⟩ := y2c hP
  exact ⟨_, _, rfl, rfl, ⟨h1, h2, by show P.length ≤ _; omega⟩, fun _ => ⟨P, rfl, hP, hpow⟩⟩
 | false =>
  exact ⟨_, _, rfl, rfl, ⟨by show (0 : Nat) ≤ _; omega, by show (0 : Nat) ≤ _; omega, by show (0 : Nat) ≤ _; omega⟩, fun h => by cases h⟩
end Go.Proofs.YtogigagfgkfkhaaGreat
