/- The program bears the bodies of the library's two sorts: a field a fact of the program. -/
import Derived.Test.YtfdhmmnffahhgaaProg
import Derived.Shelf.Lays
namespace Go.Proofs
open Go.Shelf
def Try.laysJoin_ren : Go.Shelf.Ren := ⟨fun | 156 => 140 | 165 => 168 | 166 => 169 | 169 => 170 | 240 => 184 | 241 => 185 | 276 => 188 | 277 => 189 | n => n, fun | 31 => 44 | 9 => 9 | 3 => 3 | 4 => 4 | 0 => 0 | 20 => 20 | 72 => 178 | 76 => 182 | 70 => 176 | 37 => 22 | 75 => 181 | 127 => 197 | 164 => 202 | 5 => 5 | 80 => 184 | n => n, fun | n => n⟩
theorem Try.laysJoin : Go.Proofs.Lays.n156 Try.prog Try.laysJoin_ren := {
  mixed := by kernel_rfl
  f156 := Try.func140.trans (congrArg some (by kernel_rfl))
  f165 := Try.func168.trans (congrArg some (by kernel_rfl))
  f166 := Try.func169.trans (congrArg some (by kernel_rfl))
  f169 := Try.func170.trans (congrArg some (by kernel_rfl))
  f240 := Try.func184.trans (congrArg some (by kernel_rfl))
  f241 := Try.func185.trans (congrArg some (by kernel_rfl))
  f276 := Try.func188.trans (congrArg some (by kernel_rfl))
  f277 := Try.func189.trans (congrArg some (by kernel_rfl))
  t0 := Try.underlying0
  a0 := Try.isAgg0
  z0 := Try.sizeOf0
  v0 := Try.zeroValue0
  t3 := Try.underlying3
  a3 := Try.isAgg3
  z3 := Try.sizeOf3
  v3 := Try.zeroValue3
  t4 := Try.underlying4
  a4 := Try.isAgg4
  z4 := Try.sizeOf4
  v4 := Try.zeroValue4
  t9 := Try.underlying9
  a9 := Try.isAgg9
  z9 := Try.sizeOf9
  v9 := Try.zeroValue9
  t20 := Try.underlying20
  a20 := Try.isAgg20
  z20 := Try.sizeOf20
  v20 := Try.zeroValue20
  t31 := Try.underlying44
  a31 := Try.isAgg44
  z31 := Try.sizeOf44
  v31 := Try.zeroValue44
  t37 := Try.underlying22
  a37 := Try.isAgg22
  z37 := Try.sizeOf22
  v37 := Try.zeroValue22
  t70 := Try.underlying176
  a70 := Try.isAgg176
  z70 := Try.sizeOf176
  v70 := Try.zeroValue176
  t72 := Try.underlying178
  a72 := Try.isAgg178
  z72 := Try.sizeOf178
  v72 := Try.zeroValue178
  t75 := Try.underlying181
  a75 := Try.isAgg181
  z75 := Try.sizeOf181
  v75 := Try.zeroValue181
  t76 := Try.underlying182
  a76 := Try.isAgg182
  z76 := Try.sizeOf182
  v76 := Try.zeroValue182
  t127 := Try.underlying197
  a127 := Try.isAgg197
  z127 := Try.sizeOf197
  v127 := Try.zeroValue197
  t164 := Try.underlying202
  a164 := Try.isAgg202
  z164 := Try.sizeOf202
  v164 := Try.zeroValue202 }
end Go.Proofs
