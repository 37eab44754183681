/- Texts tell lists and words apart; the law of texts. -/
import Derived.Test.YtbndfclpclifbaaGreatDoorP89
import Derived.Test.YtbndfclpclifbaaGreatDoorP57
import Derived.Test.YtbndfclpclifbaaGreatDoorP44
set_option linter.unusedVariables false
set_option linter.unusedSimpArgs false
namespace Go.Proofs.YtbndfclpclifbaaGreatDoor
open Go Go.Proofs.YtbndfclpclifbaaGreatDoor.Am
/-! ### decimal texts differ -/
theorem numsT_cons (x : Int) (xs : List Int) : numsT (x :: xs) = Lib.itoa x ++ Lib.joinTail [32] (xs.map Lib.itoa) := by
 unfold numsT
 rw [List.map_cons, Lib.join_cons]
theorem fmtN_list (xs : List Int) : (fmtN xs).data.toList = if xs = [] then [45] else numsT xs := by
 unfold fmtN
 split <;> rfl
/-! ### two lists are the same -/
/-! ### words -/
theorem l4Draw2_is {N : Int} {d : Dr} (h : DrOk N d) (hN : N ≤ 80000) {m : Int} (h0 : 0 ≤ m) (hm : m ≤ 60) : ∃ t d', spec_l4Draw d m = some (t, d', ()) ∧ (t.size : Int) ≤ m ∧ (∀ b ∈ t.data.toList, b ≠ 45) ∧ DrOk (N + 100) d' := by
 obtain ⟨b, k⟩ := d
 have w1 : IntKind.wrap .i64 (m + 1) = m + 1 := w64 (by omega) (by omega)
 obtain ⟨r0, p0, a1, a2, _⟩ := pick_is h (by omega) (n := m + 1) (by omega)
 have a2 := a2 (by omega)
 have s1 := h.next
 obtain ⟨r, g1, g2⟩ := loop_rel (f := spec_l4Draw_l3) r0.toNat (fun i (s : Dr × ByteArray) => ((s.1.1, s.1.2, ()), s.2, r0, (i : Int), ())) (fun s => ((s.1.1, s.1.2, ()), s.2, ())) (fun i s => DrOk (N + 1 + i) s.1 ∧ s.2.size ≤ i ∧ ∀ b ∈ s.2.data.toList, b ≠ 45)
  (fun i s hi hs => by
   obtain ⟨⟨b, k⟩, t⟩ := s
   obtain ⟨hs, ht, hb⟩ := hs
   have hs : DrOk (N + 1 + i) (b, k) := hs
   have ht : t.size ≤ i := ht
   have hb : ∀ b ∈ t.data.toList, b ≠ 45 := hb
   obtain ⟨v, hv, p1⟩ := of_is hs (by omega) (l := List.take 2 (List.drop 0 [(⟨#[(97 : UInt8)]⟩ : ByteArray), (⟨#[(98 : UInt8)]⟩ : ByteArray)])) (by decide) (by decide)
   have hvs : v.size = 1 ∧ ∀ b ∈ v.data.toList, b ≠ 45 := by
    have hv : v ∈ [(⟨#[(97 : UInt8)]⟩ : ByteArray), (⟨#[(98 : UInt8)]⟩ : ByteArray)] := hv
    rcases List.mem_cons.1 hv with rfl | hv
    ·exact ⟨rfl, by decide⟩
    ·rw [List.mem_singleton.1 hv]; exact ⟨rfl, by decide⟩
   refine ⟨((b, k + 1), t ++ v), ?_, hs.next.mono (by omega), by show (t ++ v).size ≤ i + 1; rw [ByteArray.size_append]; omega, fun c hc => ?_⟩
   ·simp only [spec_l4Draw_l3, show decide ((i : Int) < r0) = true from decide_eq_true (by omega), cond_true, p1, Option.bind_some, w64_succ hi (show r0.toNat ≤ 9223372036854775807 by omega)]
    rw [if_pos (by omega)]
   ·have hc : c ∈ (t ++ v).data.toList := hc
    rw [ByteArray.data_append, Array.toList_append] at hc
    rcases List.mem_append.1 hc with hc | hc
    ·exact hb c hc
    ·exact hvs.2 c hc)
  (fun s hs => by simp only [spec_l4Draw_l3, show decide (((r0.toNat : Nat) : Int) < r0) = false from decide_eq_false (by omega), cond_false])
  ((b, k + 1), (⟨#[]⟩ : ByteArray)) ⟨s1.mono (by omega), Nat.le_refl _, by intro b hb; cases hb⟩
 obtain ⟨⟨b', k'⟩, t⟩ := r
 have g1 : loopF spec_l4Draw_l3 ((b, k + 1, ()), (⟨#[]⟩ : ByteArray), r0, (0 : Int), ()) = some ((b', k', ()), t, ()) := g1
 refine ⟨t, (b', k'), ?_, by have : t.size ≤ r0.toNat := g2.2.1; omega, g2.2.2, g2.1.mono (by omega)⟩
 simp only [spec_l4Draw, w1, p0, Option.bind_some, g1]
/-! ### lists that are drawn -/
/-! ### elements that are drawn -/
end Go.Proofs.YtbndfclpclifbaaGreatDoor
