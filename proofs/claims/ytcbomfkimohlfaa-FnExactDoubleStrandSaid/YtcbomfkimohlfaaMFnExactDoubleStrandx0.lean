-- Walks of the functions that a law reaches, one after the other: plain functions, and that the machine's calls come to what they tell (wip/tools/myprint.py of this repo).
import Derived.Test.YtcbomfkimohlfaaProg
import Derived.Below
import Derived.Deep.Draws
import Derived.Deep.AppendLies
import Derived.Maps.AppendAt
import Derived.OwnWalk
import Derived.Laws.BytesArg
import Derived.Laws.MakeOwn
import Derived.Laws.OwnMore
import Derived.Deep.OwnRows
import Derived.Tactics
import Derived.Lib.ConvBytes
import Derived.Laws.Slices
import Derived.WalkKit
import Derived.KernelRfl
import Derived.RowKit3
import Derived.Deep.LoopGhost
import Derived.Deep.QuietTactic
import Derived.BigQuiet
import Derived.WideLaws
import Derived.Deep.DeepCutAuto
import Derived.Deep.CutBlock
import Derived.Deep.RegionHeld3
import Derived.Laws.Rows
import Derived.Lib.AppendStr
import Derived.ArgAppend
import Derived.Laws.IdiomCopy
import Derived.OrdersHeld
import Derived.Laws.BitsLemmas
import Derived.RowKit
import Derived.Test.YtcbomfkimohlfaaWWords
import Derived.Test.YtcbomfkimohlfaaWLast
import Derived.Test.YtcbomfkimohlfaaWTab
import Derived.Test.YtcbomfkimohlfaaWFour
import Derived.Test.YtcbomfkimohlfaaWQPut
import Derived.Test.YtcbomfkimohlfaaWApart
import Derived.Test.YtcbomfkimohlfaaWArr
import Derived.Test.YtcbomfkimohlfaaWZeros
import Derived.Test.YtcbomfkimohlfaaWFoot
import Derived.Test.YtcbomfkimohlfaaWKept
import Derived.Test.YtcbomfkimohlfaaWShare
import Derived.Test.YtcbomfkimohlfaaWN
import Derived.Test.YtcbomfkimohlfaaWFootNe
import Derived.Test.YtcbomfkimohlfaaWAt
import Derived.Test.YtcbomfkimohlfaaWEqStruct
import Derived.Test.YtcbomfkimohlfaaWRepsOne
import Derived.Test.YtcbomfkimohlfaaWInv
import Derived.Test.YtcbomfkimohlfaaWInvWords
import Derived.Test.YtcbomfkimohlfaaWGuard
import Derived.Test.YtcbomfkimohlfaaWNEv
import Derived.Test.YtcbomfkimohlfaaWMore
namespace Go.Proofs.Ytcbomfkimohlfaa.MFnExactDoubleStrand
open Go.RowKit Go.Proofs.YtcbomfkimohlfaaW.PrintWords Go.Proofs.YtcbomfkimohlfaaW.PrintLast Go.Proofs.YtcbomfkimohlfaaW.PrintMore
attribute [local go_sem] max2_int min2_int max_two min_two max_three min_three max_four min_four   -- for this text's walks alone
set_option linter.unusedVariables false
set_option linter.unusedSimpArgs false



def errW : Option Int → Value
  | none => .nilIface
  | some c => .iface 0 (.int .i64 c)
theorem errW_none : errW none = .nilIface := rfl
theorem errW_some (c : Int) : errW (some c) = .iface 0 (.int .i64 c) := rfl

theorem info2 : (Try.prog.info? 2).map (fun i => (i.zero, i.size, i.bytes)) = some (some (.int .i64 0), 1, 8) := by kernel_rfl
-- the values' own types

end Go.Proofs.Ytcbomfkimohlfaa.MFnExactDoubleStrand
