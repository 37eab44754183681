/- Texts of grades and elements: both sides tell the same; the law. -/
import Derived.Test.YtbndfclpclifbaaGreatDoorP30
import Derived.Test.YtbndfclpclifbaaGreatDoorP0
set_option linter.unusedVariables false
set_option linter.unusedSimpArgs false
namespace Go.Proofs.YtbndfclpclifbaaGreatDoor
open Go Go.Proofs.YtbndfclpclifbaaGreatDoor.Am
def BL (l : List UInt8) : ByteArray := ⟨⟨l⟩⟩
theorem BL_size (l : List UInt8) : (BL l).size = l.length := rfl
theorem BL_extract (l : List UInt8) (i j : Nat) : (BL l).extract i j = BL ((l.drop i).take (j - i)) := by
 apply ByteArray.ext
 rw [ByteArray.data_extract]
 apply Array.ext'
 rw [Array.toList_extract]
 rfl
theorem BL_app (a b : List UInt8) : BL a ++ BL b = BL (a ++ b) := by
 apply ByteArray.ext
 rw [ByteArray.data_append]
 apply Array.ext'
 rw [Array.toList_append]
 rfl
theorem BL_mk (l : List UInt8) : (⟨l.toArray⟩ : ByteArray) = BL l := by simp [BL]
/-! ### the text -/
end Go.Proofs.YtbndfclpclifbaaGreatDoor
