/- Expressions: their texts and their parts; where an expression ends. -/
import Derived.Test.YtbndfclpclifbaaGreatDoorP30
set_option linter.unusedVariables false
set_option linter.unusedSimpArgs false
namespace Go.Proofs.YtbndfclpclifbaaGreatDoor
open Go Go.Proofs.YtbndfclpclifbaaGreatDoor.Am
/-! ### texts as lists of bytes -/
def B (l : List UInt8) : ByteArray := ⟨⟨l⟩⟩
abbrev Pts := List (ByteArray × PT)
/-! ### forests -/
inductive Fo : List UInt8 → Pts → Prop
 | nil : Fo [] []
 | lt {c : UInt8} {t : List UInt8} {l : Pts} : (c = 97 ∨ c = 98) → Fo t l → Fo (c :: t) ((B [c], PT.mk []) :: l)
 | rp {t1 t2 : List UInt8} {l1 l2 : Pts} : Fo t1 l1 → l1 ≠ [] → Fo t2 l2 → Fo (40 :: (t1 ++ 41 :: 35 :: t2)) ((B [], PT.mk l1) :: l2)
theorem Fo.app {t t' : List UInt8} {l l' : Pts} (h : Fo t l) (h' : Fo t' l') : Fo (t ++ t') (l ++ l') := by
 induction h with
 | nil => exact h'
 | lt hc _ ih => exact .lt hc ih
 | rp h1 hn _ _ ih =>
  have := Fo.rp h1 hn ih
  simpa using this
theorem Fo.ne {t : List UInt8} {l : Pts} (h : Fo t l) (hl : l ≠ []) : t ≠ [] := by
 cases h with
 | nil => exact absurd rfl hl
 | lt _ _ => simp
 | rp _ _ _ => simp
theorem Fo.len {t : List UInt8} {l : Pts} (h : Fo t l) : l.length ≤ t.length := by
 induction h with
 | nil => simp
 | lt _ _ ih => simp; omega
 | rp _ _ _ _ ih => simp; omega
/-! ### the program's parts -/
abbrev Rec := ByteArray → Option (Pts × ByteArray)
section
variable (φ : Rec) (ac : Pts) (s : List UInt8)
end
end Go.Proofs.YtbndfclpclifbaaGreatDoor
