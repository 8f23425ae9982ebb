/- The walks of the functions that the statement reaches; written by a program for this claim. No condition. -/
import Derived.Test.YtlghjnmfccifeaaProg
import Derived.Below
import Derived.Deep.Draws
import Derived.Deep.AppendLies
import Derived.Maps.AppendAt
import Derived.OwnWalk
import Derived.Laws.BytesArg
import Derived.Laws.MakeOwn
import Derived.Laws.OwnMore
import Derived.Deep.OwnRows
import Derived.Tactics
import Derived.Lib.ConvBytes
import Derived.Laws.Slices
import Derived.WalkKit
import Derived.KernelRfl
import Derived.RowKit3
import Derived.Deep.LoopGhost
import Derived.Deep.QuietTactic
import Derived.BigQuiet
import Derived.WideLaws
import Derived.Deep.DeepCutAuto
import Derived.Deep.CutBlock
import Derived.Deep.RegionHeld3
import Derived.Laws.Rows
import Derived.Lib.AppendStr
import Derived.ArgAppend
import Derived.Laws.IdiomCopy
import Derived.OrdersHeld
import Derived.Laws.BitsLemmas
import Derived.RowKit
import Derived.Test.YtlghjnmfccifeaaWWords
import Derived.Test.YtlghjnmfccifeaaWLast
import Derived.Test.YtlghjnmfccifeaaWTab
import Derived.Test.YtlghjnmfccifeaaWFour
import Derived.Test.YtlghjnmfccifeaaWQPut
import Derived.Test.YtlghjnmfccifeaaWApart
import Derived.Test.YtlghjnmfccifeaaWArr
import Derived.Test.YtlghjnmfccifeaaWZeros
import Derived.Test.YtlghjnmfccifeaaWFoot
import Derived.Test.YtlghjnmfccifeaaWKept
import Derived.Test.YtlghjnmfccifeaaWShare
import Derived.Test.YtlghjnmfccifeaaWN
import Derived.Test.YtlghjnmfccifeaaWFootNe
import Derived.Test.YtlghjnmfccifeaaWAt
import Derived.Test.YtlghjnmfccifeaaWEqStruct
import Derived.Test.YtlghjnmfccifeaaWRepsOne
import Derived.Test.YtlghjnmfccifeaaWInv
import Derived.Test.YtlghjnmfccifeaaWInvWords
import Derived.Test.YtlghjnmfccifeaaWGuard
import Derived.Test.YtlghjnmfccifeaaWNEv
import Derived.Test.YtlghjnmfccifeaaWMore
namespace Go.Proofs.Ytlghjnmfccifeaa.PFnExactDualBody
open Go.RowKit Go.Proofs.YtlghjnmfccifeaaW.PrintWords Go.Proofs.YtlghjnmfccifeaaW.PrintLast Go.Proofs.YtlghjnmfccifeaaW.PrintMore
attribute [local go_sem] max2_int min2_int max_two min_two max_three min_three max_four min_four   -- for this text's walks alone
set_option linter.unusedVariables false
set_option linter.unusedSimpArgs false



def errW : Option Int → Value
  | none => .nilIface
  | some c => .iface 0 (.int .i64 c)
theorem errW_none : errW none = .nilIface := rfl
theorem errW_some (c : Int) : errW (some c) = .iface 0 (.int .i64 c) := rfl

theorem info3 : (Try.prog.info? 3).map (fun i => (i.zero, i.size, i.bytes)) = some (some (.int .i64 0), 1, 8) := by kernel_rfl
-- the values' own types

end Go.Proofs.Ytlghjnmfccifeaa.PFnExactDualBody
