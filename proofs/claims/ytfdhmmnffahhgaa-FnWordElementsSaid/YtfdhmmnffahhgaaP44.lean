/- The law of splits. -/
import Derived.Test.YtfdhmmnffahhgaaP43
set_option linter.unusedVariables false
set_option linter.unusedSimpArgs false
namespace Go.Proofs.Ytfdhmmnffahhgaa
open Go Go.Proofs.Ytfdhmmnffahhgaa.Am
theorem l4Draw_is {N : Int} {d : Dr} (h : DrOk N d) (hN : N ≤ 80000) {m : Int} (h0 : 0 ≤ m) (hm : m ≤ 50) : ∃ w d', spec_l4Draw d m = some (w, d', ()) ∧ w.size ≤ 60 ∧ DrOk (N + 100) d' := by
 obtain ⟨b, k⟩ := d
 have w1 : IntKind.wrap .i64 (m + 1) = m + 1 := w64 (by omega) (by omega)
 obtain ⟨r0, p0, a1, a2, _⟩ := pick_is h (by omega) (n := m + 1) (by omega)
 have a2 := a2 (by omega)
 have s1 := h.next
 obtain ⟨r, g1, g2⟩ := loop_rel (f := spec_l4Draw_l3) r0.toNat (fun i (s : Dr × ByteArray) => ((s.1.1, s.1.2, ()), s.2, r0, (i : Int), ())) (fun s => ((s.1.1, s.1.2, ()), s.2, ())) (fun i s => DrOk (N + 1 + i) s.1 ∧ s.2.size ≤ i)
  (fun i s hi hs => by
   obtain ⟨⟨b, k⟩, t⟩ := s
   obtain ⟨hs, ht⟩ := hs
   have hs : DrOk (N + 1 + i) (b, k) := hs
   have ht : t.size ≤ i := ht
   obtain ⟨v, hv, p1⟩ := of_is hs (by omega) (l := List.take 2 (List.drop 0 [(⟨#[(97 : UInt8)]⟩ : ByteArray), (⟨#[(98 : UInt8)]⟩ : ByteArray)])) (by decide) (by decide)
   have hvs : v.size = 1 := by
    have hv : v ∈ [(⟨#[(97 : UInt8)]⟩ : ByteArray), (⟨#[(98 : UInt8)]⟩ : ByteArray)] := hv
    rcases List.mem_cons.1 hv with rfl | hv
    ·rfl
    ·rw [List.mem_singleton.1 hv]; rfl
   refine ⟨((b, k + 1), t ++ v), ?_, hs.next.mono (by omega), by show (t ++ v).size ≤ i + 1; rw [ByteArray.size_append]; omega⟩
   simp only [spec_l4Draw_l3, show decide ((i : Int) < r0) = true from decide_eq_true (by omega), cond_true, p1, Option.bind_some, w64_succ hi (show r0.toNat ≤ 9223372036854775807 by omega)]
   rw [if_pos (by omega)])
  (fun s hs => by simp only [spec_l4Draw_l3, show decide (((r0.toNat : Nat) : Int) < r0) = false from decide_eq_false (by omega), cond_false])
  ((b, k + 1), (⟨#[]⟩ : ByteArray)) ⟨s1.mono (by omega), Nat.le_refl _⟩
 obtain ⟨⟨b', k'⟩, t⟩ := r
 have g1 : loopF spec_l4Draw_l3 ((b, k + 1, ()), (⟨#[]⟩ : ByteArray), r0, (0 : Int), ()) = some ((b', k', ()), t, ()) := g1
 refine ⟨t, (b', k'), ?_, by have : t.size ≤ r0.toNat := g2.2; omega, g2.1.mono (by omega)⟩
 simp only [spec_l4Draw, w1, p0, Option.bind_some, g1]
theorem l4Word_is {N : Int} {d : Dr} (h : DrOk N d) (hN : N ≤ 70000) : ∃ w d', spec_l4Word d = some (w, d', ()) ∧ w.size ≤ 61 ∧ DrOk (N + 200) d' := by
 obtain ⟨b, k⟩ := d
 obtain ⟨r0, p0, _, _, _⟩ := pick_is h (by omega) (n := 24) (by omega)
 have s1 := h.next
 unfold spec_l4Word
 dsimp only
 rw [p0]
 simp only [Option.bind_some]
 cases (r0 == 0) with
 | true =>
  obtain ⟨w, ⟨b1, k1⟩, p1, hw, s2⟩ := l4Draw_is s1 (by omega) (m := 4) (by omega) (by omega)
  obtain ⟨v, hv, p2⟩ := of_is s2 (by omega) (l := List.take 3 (List.drop 0 [(⟨#[(99 : UInt8)]⟩ : ByteArray), (⟨#[(32 : UInt8)]⟩ : ByteArray), (⟨#[(65 : UInt8)]⟩ : ByteArray)])) (by decide) (by decide)
  have hvs : v.size = 1 := by
   have hv : v ∈ [(⟨#[(99 : UInt8)]⟩ : ByteArray), (⟨#[(32 : UInt8)]⟩ : ByteArray), (⟨#[(65 : UInt8)]⟩ : ByteArray)] := hv
   rcases List.mem_cons.1 hv with rfl | hv
   ·rfl
   ·rcases List.mem_cons.1 hv with rfl | hv
    ·rfl
    ·rw [List.mem_singleton.1 hv]; rfl
  rw [cond_true, p1]
  simp only [Option.bind_some]
  rw [p2]
  simp only [Option.bind_some]
  rw [if_pos (by omega)]
  exact ⟨_, _, rfl, by rw [ByteArray.size_append]; omega, s2.next.mono (by omega)⟩
 | false =>
  obtain ⟨w, ⟨b1, k1⟩, p1, hw, s2⟩ := l4Draw_is s1 (by omega) (m := 9) (by omega) (by omega)
  rw [cond_false, p1]
  exact ⟨w, (b1, k1), rfl, by omega, s2.mono (by omega)⟩
end Go.Proofs.Ytfdhmmnffahhgaa
