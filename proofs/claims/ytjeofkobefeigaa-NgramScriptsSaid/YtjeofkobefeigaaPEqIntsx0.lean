-- PRINTED BY print.sh 35421559b90ae4d0a3588c463048766b98c2df88dd9212a6774a882060cdf62d: not written by this session
import Derived.Test.YtjeofkobefeigaaProg
import Derived.Below
import Derived.Deep.Draws
import Derived.Deep.AppendLies
import Derived.Maps.AppendAt
import Derived.OwnWalk
import Derived.Laws.BytesArg
import Derived.Laws.MakeOwn
import Derived.Laws.OwnMore
import Derived.Deep.OwnRows
import Derived.Tactics
import Derived.Lib.ConvBytes
import Derived.Laws.Slices
import Derived.WalkKit
import Derived.KernelRfl
import Derived.RowKit3
import Derived.Deep.LoopGhost
import Derived.Deep.QuietTactic
import Derived.BigQuiet
import Derived.WideLaws
import Derived.Deep.DeepCutAuto
import Derived.Deep.CutBlock
import Derived.Deep.RegionHeld3
import Derived.Laws.Rows
import Derived.Lib.AppendStr
import Derived.ArgAppend
import Derived.Laws.IdiomCopy
import Derived.OrdersHeld
import Derived.Laws.BitsLemmas
import Derived.RowKit
import Derived.Test.YtjeofkobefeigaaWWords
import Derived.Test.YtjeofkobefeigaaWLast
import Derived.Test.YtjeofkobefeigaaWTab
import Derived.Test.YtjeofkobefeigaaWFour
import Derived.Test.YtjeofkobefeigaaWQPut
import Derived.Test.YtjeofkobefeigaaWApart
import Derived.Test.YtjeofkobefeigaaWArr
import Derived.Test.YtjeofkobefeigaaWZeros
import Derived.Test.YtjeofkobefeigaaWFoot
import Derived.Test.YtjeofkobefeigaaWKept
import Derived.Test.YtjeofkobefeigaaWShare
import Derived.Test.YtjeofkobefeigaaWN
import Derived.Test.YtjeofkobefeigaaWFootNe
import Derived.Test.YtjeofkobefeigaaWAt
import Derived.Test.YtjeofkobefeigaaWEqStruct
import Derived.Test.YtjeofkobefeigaaWRepsOne
import Derived.Test.YtjeofkobefeigaaWInv
import Derived.Test.YtjeofkobefeigaaWInvWords
import Derived.Test.YtjeofkobefeigaaWGuard
import Derived.Test.YtjeofkobefeigaaWNEv
import Derived.Test.YtjeofkobefeigaaWMore
namespace Go.Proofs.Ytjeofkobefeigaa.PEqInts
open Go.RowKit Go.Proofs.YtjeofkobefeigaaW.PrintWords Go.Proofs.YtjeofkobefeigaaW.PrintLast Go.Proofs.YtjeofkobefeigaaW.PrintMore
attribute [local go_sem] max2_int min2_int max_two min_two max_three min_three max_four min_four   -- for this text's walks alone
set_option linter.unusedVariables false
set_option linter.unusedSimpArgs false



def errW : Option Int → Value
  | none => .nilIface
  | some c => .iface 0 (.int .i64 c)
theorem errW_none : errW none = .nilIface := rfl
theorem errW_some (c : Int) : errW (some c) = .iface 0 (.int .i64 c) := rfl

-- the values' own types

end Go.Proofs.Ytjeofkobefeigaa.PEqInts
