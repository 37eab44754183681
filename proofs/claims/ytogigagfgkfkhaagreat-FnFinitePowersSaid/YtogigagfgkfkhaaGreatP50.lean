import Derived.Test.YtogigagfgkfkhaaGreatP39
import Derived.Test.YtogigagfgkfkhaaGreatP30
import Derived.Test.YtogigagfgkfkhaaGreatP40
set_option linter.unusedVariables false
set_option linter.unusedSimpArgs false
/- Products of grades are put together in any way; the value of a text that is put behind another. -/
namespace Go.Proofs.YtogigagfgkfkhaaGreat
open Go Go.Proofs.YtogigagfgkfkhaaGreat.Am
theorem mn_le (x y z : Int) : z ≤ mn x y ↔ z ≤ x ∧ z ≤ y := by unfold mn; split <;> omega
theorem mx_le (x y z : Int) : z ≤ mx x y ↔ z ≤ x ∨ z ≤ y := by unfold mx; split <;> omega
theorem gcN_le {n : Nat} {A B : List Int} {i k : Nat} (z : Int) : ∀ m, z ≤ gcN n A B i k m ↔ z ≤ 3 ∧ ∀ l, l < m → z ≤ A.getD (i * n + l) 0 ∨ z ≤ B.getD (l * n + k) 0
 | 0 => ⟨fun h => ⟨h, fun l hl => absurd hl (by omega)⟩, fun h => h.1⟩
 | m + 1 => by
  show z ≤ mn (gcN n A B i k m) (mx _ _) ↔ _
  rw [mn_le, mx_le, gcN_le z m]
  constructor
  ·rintro ⟨⟨h1, h2⟩, h3⟩
   refine ⟨h1, fun l hl => ?_⟩
   by_cases e : l = m
   ·rw [e]; exact h3
   ·exact h2 l (by omega)
  ·rintro ⟨h1, h2⟩
   exact ⟨⟨h1, fun l hl => h2 l (by omega)⟩, h2 m (by omega)⟩
theorem gmul_le {n : Nat} {A B : List Int} {i k : Nat} (hi : i < n) (hk : k < n) (z : Int) : z ≤ (gmul n A B).getD (i * n + k) 0 ↔ z ≤ 3 ∧ ∀ l, l < n → z ≤ A.getD (i * n + l) 0 ∨ z ≤ B.getD (l * n + k) 0 := by
 unfold gmul
 rw [kc5 _ hi hk]
 exact gcN_le z n
end Go.Proofs.YtogigagfgkfkhaaGreat

/- The value of an element's text is its matrix. -/
namespace Go.Proofs.YtogigagfgkfkhaaGreat
open Go Go.Proofs.YtogigagfgkfkhaaGreat.Am
/-- forests with their values -/
inductive Vo (n : Nat) (st : List Stp) : List UInt8 → Pts → List Int → Prop
 | lt {c : UInt8} : (c = 97 ∨ c = 98) → Vo n st [c] [(B [c], PT.mk [])] (lett (B [c]) n st)
 | rp {t : List UInt8} {l : Pts} {A : List Int} : Vo n st t l A → gmul n A A = A → Vo n st (40 :: (t ++ [41, 35])) [(B [], PT.mk l)] (y0b n A)
 | cat {t t' : List UInt8} {l l' : Pts} {A A' : List Int} : Vo n st t l A → Vo n st t' l' A' → Vo n st (t ++ t') (l ++ l') (gmul n A A')
section
variable {a : Aut} {n : Nat} (ha : AutIs a n) (hv : yk4 a = true) (hs : yt9 a)
include ha
theorem Vo.ok {t : List UInt8} {l : Pts} {A : List Int} (h : Vo n a.2.2.2 t l A) : Fo t l ∧ l ≠ [] ∧ GOk n A := by
 induction h with
 | lt hc => exact ⟨.lt hc .nil, by simp, gr_ok (yw3 ha _).1⟩
 | rp h1 h2 ih => exact ⟨.rp ih.1 ih.2.1 .nil, by simp, y36 ih.2.2⟩
 | cat h1 h2 ih1 ih2 => exact ⟨ih1.1.app ih2.1, by simp [ih1.2.1], yv7 ih1.2.2 ih2.2.2⟩
include hv hs
end
end Go.Proofs.YtogigagfgkfkhaaGreat

/- The value of each element's text is the element. -/
namespace Go.Proofs.YtogigagfgkfkhaaGreat
open Go Go.Proofs.YtogigagfgkfkhaaGreat.Am
def VX (n : Nat) (st : List Stp) (A : List Int) (s : ByteArray) : Prop := ∃ t l, s = B t ∧ Vo n st t l A
theorem vx_clo (n : Nat) (st : List Stp) : Clo n (VX n st) := by
 refine ⟨?_, ?_⟩
 ·rintro A s C t ⟨t1, l1, rfl, h1⟩ ⟨t2, l2, rfl, h2⟩
  exact ⟨t1 ++ t2, l1 ++ l2, B_app t1 t2, .cat h1 h2⟩
 ·rintro A s ⟨t, l, rfl, h1⟩ hid
  refine ⟨40 :: (t ++ [41, 35]), _, ?_, .rp h1 hid⟩
  unfold y4i
  rw [show (⟨#[(40 : UInt8)]⟩ : ByteArray) = B [40] from rfl, show (⟨#[(41 : UInt8), (35 : UInt8)]⟩ : ByteArray) = B [41, 35] from rfl, B_app, B_app]
  simp
theorem zj8 {a : Aut} {n : Nat} (ha : AutIs a n) (hv : yk4 a = true) (hs : yt9 a) : ∃ L ok, LOk n L ∧ yi2 a = some (L, ok) ∧ yd1 a = some (L, ok) ∧ (ok = false → L = []) ∧ z4d n a.2.2.2 = some (L, ok) ∧ XOk (VX n a.2.2.2) L := by
 obtain ⟨L, ok, h1, h2, h3, h4, h5, h6⟩ := y74 ha hv hs
 exact ⟨L, ok, h1, h2, h3, h4, h6, h5 _ (vx_clo n a.2.2.2) ⟨[97], _, rfl, .lt (.inl rfl)⟩ ⟨[98], _, rfl, .lt (.inr rfl)⟩⟩
end Go.Proofs.YtogigagfgkfkhaaGreat

/- What grows between two states grows there. -/
namespace Go.Proofs.YtogigagfgkfkhaaGreat
open Go Go.Proofs.YtogigagfgkfkhaaGreat.Am
theorem z03 {L : List Elt} {p : Elt → Bool} {e : ByteArray} (h : y0y L p = (e, true)) : ∃ x ∈ L, p x = true ∧ x.2 = e := by
 unfold y0y at h
 cases hf : (List.range L.length).find? fun i => p (L.getD i el0) with
 | none => rw [hf] at h; cases h
 | some i =>
  rw [hf] at h
  have hi := List.mem_range.1 (List.mem_of_find?_eq_some hf)
  exact ⟨L.getD i el0, by rw [yd4 el0 hi]; exact List.getElem_mem hi, (List.find?_some (p := fun i => p (L.getD i el0)) hf : p (L.getD i el0) = true), (Prod.mk.inj h).1⟩
end Go.Proofs.YtogigagfgkfkhaaGreat

/- Draws of automata with few states; the law of what grows between states. -/
namespace Go.Proofs.YtogigagfgkfkhaaGreat
open Go Go.Proofs.YtogigagfgkfkhaaGreat.Am
theorem kd1 {N : Int} {d : Dr} (h : DrOk N d) (hN : N ≤ 400) : ∃ a d', y32 d = some (a, d', ()) ∧ Tinier a ∧ DrOk (N + 5600) d' := by
 obtain ⟨b, k⟩ := d
 obtain ⟨r0, p0, _, _, _⟩ := y0z h (by omega) (n := 3) (by omega)
 have s1 := h.next
 unfold y32
 dsimp only
 rw [p0]
 simp only [Option.bind_some]
 cases (r0 == 0) with
 | true =>
  obtain ⟨⟨x, S, F, l⟩, ⟨b1, k1⟩, p1, t1, s2⟩ := z02 s1 (by omega) (q := 3) (by omega) (by omega)
  obtain ⟨⟨x', S', F', l'⟩, ⟨b2, k2⟩, p2, t2, s3⟩ := z4f s2 (by omega) t1
  refine ⟨(x', S', F', l'), (b2, k2), ?_, t2, s3.mono (by omega)⟩
  rw [cond_true, p1]
  simp only [Option.bind_some, y2b, p2]
 | false =>
  obtain ⟨⟨x, S, F, l⟩, ⟨b1, k1⟩, p1, t1, s2⟩ := z02 s1 (by omega) (q := 2) (by omega) (by omega)
  obtain ⟨⟨x', S', F', l'⟩, ⟨b2, k2⟩, p2, t2, s3⟩ := z4f s2 (by omega) t1
  refine ⟨(x', S', F', l'), (b2, k2), ?_, t2, s3.mono (by omega)⟩
  rw [cond_false, p1]
  simp only [Option.bind_some, y2b, p2]
end Go.Proofs.YtogigagfgkfkhaaGreat
