-- Walks of the functions that a law reaches, one after the other: plain functions, and that the machine's calls come to what they tell (wip/tools/myprint.py of this repo).
import Derived.Test.YtijafgikehlomaaProg
import Derived.Below
import Derived.Deep.Draws
import Derived.Deep.AppendLies
import Derived.Maps.AppendAt
import Derived.OwnWalk
import Derived.Laws.BytesArg
import Derived.Laws.MakeOwn
import Derived.Laws.OwnMore
import Derived.Deep.OwnRows
import Derived.Tactics
import Derived.Lib.ConvBytes
import Derived.Laws.Slices
import Derived.WalkKit
import Derived.KernelRfl
import Derived.RowKit3
import Derived.Deep.LoopGhost
import Derived.Deep.QuietTactic
import Derived.BigQuiet
import Derived.WideLaws
import Derived.Deep.DeepCutAuto
import Derived.Deep.CutBlock
import Derived.Deep.RegionHeld3
import Derived.Laws.Rows
import Derived.Lib.AppendStr
import Derived.ArgAppend
import Derived.Laws.IdiomCopy
import Derived.OrdersHeld
import Derived.Laws.BitsLemmas
import Derived.RowKit
import Derived.Test.YtijafgikehlomaaWWords
import Derived.Test.YtijafgikehlomaaWLast
import Derived.Test.YtijafgikehlomaaWTab
import Derived.Test.YtijafgikehlomaaWFour
import Derived.Test.YtijafgikehlomaaWQPut
import Derived.Test.YtijafgikehlomaaWApart
import Derived.Test.YtijafgikehlomaaWArr
import Derived.Test.YtijafgikehlomaaWZeros
import Derived.Test.YtijafgikehlomaaWFoot
import Derived.Test.YtijafgikehlomaaWKept
import Derived.Test.YtijafgikehlomaaWShare
import Derived.Test.YtijafgikehlomaaWN
import Derived.Test.YtijafgikehlomaaWFootNe
import Derived.Test.YtijafgikehlomaaWAt
import Derived.Test.YtijafgikehlomaaWEqStruct
import Derived.Test.YtijafgikehlomaaWRepsOne
import Derived.Test.YtijafgikehlomaaWInv
import Derived.Test.YtijafgikehlomaaWInvWords
import Derived.Test.YtijafgikehlomaaWGuard
import Derived.Test.YtijafgikehlomaaWNEv
import Derived.Test.YtijafgikehlomaaWMore
namespace Go.Proofs.Ytijafgikehlomaa.MFnExactRemoveStrand
open Go.RowKit Go.Proofs.YtijafgikehlomaaW.PrintWords Go.Proofs.YtijafgikehlomaaW.PrintLast Go.Proofs.YtijafgikehlomaaW.PrintMore
attribute [local go_sem] max2_int min2_int max_two min_two max_three min_three max_four min_four   -- for this text's walks alone
set_option linter.unusedVariables false
set_option linter.unusedSimpArgs false



def errW : Option Int → Value
  | none => .nilIface
  | some c => .iface 0 (.int .i64 c)
theorem errW_none : errW none = .nilIface := rfl
theorem errW_some (c : Int) : errW (some c) = .iface 0 (.int .i64 c) := rfl

theorem info2 : (Try.prog.info? 2).map (fun i => (i.zero, i.size, i.bytes)) = some (some (.int .i64 0), 1, 8) := by kernel_rfl
-- the values' own types

end Go.Proofs.Ytijafgikehlomaa.MFnExactRemoveStrand
