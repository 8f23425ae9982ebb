-- PRINTED BY print.sh 35421559b90ae4d0a3588c463048766b98c2df88dd9212a6774a882060cdf62d: not written by this session
import Derived.Test.YtdcapmgebjifpaaProg
import Derived.Below
import Derived.Deep.Draws
import Derived.Deep.AppendLies
import Derived.Maps.AppendAt
import Derived.OwnWalk
import Derived.Laws.BytesArg
import Derived.Laws.MakeOwn
import Derived.Laws.OwnMore
import Derived.Deep.OwnRows
import Derived.Tactics
import Derived.Lib.ConvBytes
import Derived.Laws.Slices
import Derived.WalkKit
import Derived.KernelRfl
import Derived.RowKit3
import Derived.Deep.LoopGhost
import Derived.Deep.QuietTactic
import Derived.BigQuiet
import Derived.WideLaws
import Derived.Deep.DeepCutAuto
import Derived.Deep.CutBlock
import Derived.Deep.RegionHeld3
import Derived.Laws.Rows
import Derived.Lib.AppendStr
import Derived.ArgAppend
import Derived.Laws.IdiomCopy
import Derived.OrdersHeld
import Derived.Laws.BitsLemmas
import Derived.RowKit
import Derived.Test.YtdcapmgebjifpaaWWords
import Derived.Test.YtdcapmgebjifpaaWLast
import Derived.Test.YtdcapmgebjifpaaWTab
import Derived.Test.YtdcapmgebjifpaaWFour
import Derived.Test.YtdcapmgebjifpaaWQPut
import Derived.Test.YtdcapmgebjifpaaWApart
import Derived.Test.YtdcapmgebjifpaaWArr
import Derived.Test.YtdcapmgebjifpaaWZeros
import Derived.Test.YtdcapmgebjifpaaWFoot
import Derived.Test.YtdcapmgebjifpaaWKept
import Derived.Test.YtdcapmgebjifpaaWShare
import Derived.Test.YtdcapmgebjifpaaWN
import Derived.Test.YtdcapmgebjifpaaWFootNe
import Derived.Test.YtdcapmgebjifpaaWAt
import Derived.Test.YtdcapmgebjifpaaWEqStruct
import Derived.Test.YtdcapmgebjifpaaWRepsOne
import Derived.Test.YtdcapmgebjifpaaWInv
import Derived.Test.YtdcapmgebjifpaaWInvWords
import Derived.Test.YtdcapmgebjifpaaWGuard
import Derived.Test.YtdcapmgebjifpaaWNEv
import Derived.Test.YtdcapmgebjifpaaWMore
namespace Go.Proofs.Ytdcapmgebjifpaa.PFnExactOwedAfter
open Go.RowKit Go.Proofs.YtdcapmgebjifpaaW.PrintWords Go.Proofs.YtdcapmgebjifpaaW.PrintLast Go.Proofs.YtdcapmgebjifpaaW.PrintMore
attribute [local go_sem] max2_int min2_int max_two min_two max_three min_three max_four min_four   -- for this text's walks alone
set_option linter.unusedVariables false
set_option linter.unusedSimpArgs false



def errW : Option Int → Value
  | none => .nilIface
  | some c => .iface 0 (.int .i64 c)
theorem errW_none : errW none = .nilIface := rfl
theorem errW_some (c : Int) : errW (some c) = .iface 0 (.int .i64 c) := rfl

theorem info3 : (Try.prog.info? 3).map (fun i => (i.zero, i.size, i.bytes)) = some (some (.int .i64 0), 1, 8) := by kernel_rfl
-- the values' own types

end Go.Proofs.Ytdcapmgebjifpaa.PFnExactOwedAfter
