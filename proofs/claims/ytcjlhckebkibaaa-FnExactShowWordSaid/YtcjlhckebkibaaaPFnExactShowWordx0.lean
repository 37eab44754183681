-- PRINTED BY print.sh 35421559b90ae4d0a3588c463048766b98c2df88dd9212a6774a882060cdf62d: not written by this session
import Derived.Test.YtcjlhckebkibaaaProg
import Derived.Below
import Derived.Deep.Draws
import Derived.Deep.AppendLies
import Derived.Maps.AppendAt
import Derived.OwnWalk
import Derived.Laws.BytesArg
import Derived.Laws.MakeOwn
import Derived.Laws.OwnMore
import Derived.Deep.OwnRows
import Derived.Tactics
import Derived.Lib.ConvBytes
import Derived.Laws.Slices
import Derived.WalkKit
import Derived.KernelRfl
import Derived.RowKit3
import Derived.Deep.LoopGhost
import Derived.Deep.QuietTactic
import Derived.BigQuiet
import Derived.WideLaws
import Derived.Deep.DeepCutAuto
import Derived.Deep.CutBlock
import Derived.Deep.RegionHeld3
import Derived.Laws.Rows
import Derived.Lib.AppendStr
import Derived.ArgAppend
import Derived.Laws.IdiomCopy
import Derived.OrdersHeld
import Derived.Laws.BitsLemmas
import Derived.RowKit
import Derived.Test.YtcjlhckebkibaaaWWords
import Derived.Test.YtcjlhckebkibaaaWLast
import Derived.Test.YtcjlhckebkibaaaWTab
import Derived.Test.YtcjlhckebkibaaaWFour
import Derived.Test.YtcjlhckebkibaaaWQPut
import Derived.Test.YtcjlhckebkibaaaWApart
import Derived.Test.YtcjlhckebkibaaaWArr
import Derived.Test.YtcjlhckebkibaaaWZeros
import Derived.Test.YtcjlhckebkibaaaWFoot
import Derived.Test.YtcjlhckebkibaaaWKept
import Derived.Test.YtcjlhckebkibaaaWShare
import Derived.Test.YtcjlhckebkibaaaWN
import Derived.Test.YtcjlhckebkibaaaWFootNe
import Derived.Test.YtcjlhckebkibaaaWAt
import Derived.Test.YtcjlhckebkibaaaWEqStruct
import Derived.Test.YtcjlhckebkibaaaWRepsOne
import Derived.Test.YtcjlhckebkibaaaWInv
import Derived.Test.YtcjlhckebkibaaaWInvWords
import Derived.Test.YtcjlhckebkibaaaWGuard
import Derived.Test.YtcjlhckebkibaaaWNEv
import Derived.Test.YtcjlhckebkibaaaWMore
namespace Go.Proofs.Ytcjlhckebkibaaa.PFnExactShowWord
open Go.RowKit Go.Proofs.YtcjlhckebkibaaaW.PrintWords Go.Proofs.YtcjlhckebkibaaaW.PrintLast Go.Proofs.YtcjlhckebkibaaaW.PrintMore
attribute [local go_sem] max2_int min2_int max_two min_two max_three min_three max_four min_four   -- for this text's walks alone
set_option linter.unusedVariables false
set_option linter.unusedSimpArgs false



def errW : Option Int → Value
  | none => .nilIface
  | some c => .iface 0 (.int .i64 c)
theorem errW_none : errW none = .nilIface := rfl
theorem errW_some (c : Int) : errW (some c) = .iface 0 (.int .i64 c) := rfl

-- the values' own types

end Go.Proofs.Ytcjlhckebkibaaa.PFnExactShowWord
