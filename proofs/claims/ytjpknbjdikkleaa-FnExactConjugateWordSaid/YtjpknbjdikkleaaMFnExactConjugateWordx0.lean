-- Walks of the functions that a law reaches, one after the other: plain functions, and that the machine's calls come to what they tell (wip/tools/myprint.py of this repo).
import Derived.Test.YtjpknbjdikkleaaProg
import Derived.Below
import Derived.Deep.Draws
import Derived.Deep.AppendLies
import Derived.Maps.AppendAt
import Derived.OwnWalk
import Derived.Laws.BytesArg
import Derived.Laws.MakeOwn
import Derived.Laws.OwnMore
import Derived.Deep.OwnRows
import Derived.Tactics
import Derived.Lib.ConvBytes
import Derived.Laws.Slices
import Derived.WalkKit
import Derived.KernelRfl
import Derived.RowKit3
import Derived.Deep.LoopGhost
import Derived.Deep.QuietTactic
import Derived.BigQuiet
import Derived.WideLaws
import Derived.Deep.DeepCutAuto
import Derived.Deep.CutBlock
import Derived.Deep.RegionHeld3
import Derived.Laws.Rows
import Derived.Lib.AppendStr
import Derived.ArgAppend
import Derived.Laws.IdiomCopy
import Derived.OrdersHeld
import Derived.Laws.BitsLemmas
import Derived.RowKit
import Derived.Test.YtjpknbjdikkleaaWWords
import Derived.Test.YtjpknbjdikkleaaWLast
import Derived.Test.YtjpknbjdikkleaaWTab
import Derived.Test.YtjpknbjdikkleaaWFour
import Derived.Test.YtjpknbjdikkleaaWQPut
import Derived.Test.YtjpknbjdikkleaaWApart
import Derived.Test.YtjpknbjdikkleaaWArr
import Derived.Test.YtjpknbjdikkleaaWZeros
import Derived.Test.YtjpknbjdikkleaaWFoot
import Derived.Test.YtjpknbjdikkleaaWKept
import Derived.Test.YtjpknbjdikkleaaWShare
import Derived.Test.YtjpknbjdikkleaaWN
import Derived.Test.YtjpknbjdikkleaaWFootNe
import Derived.Test.YtjpknbjdikkleaaWAt
import Derived.Test.YtjpknbjdikkleaaWEqStruct
import Derived.Test.YtjpknbjdikkleaaWRepsOne
import Derived.Test.YtjpknbjdikkleaaWInv
import Derived.Test.YtjpknbjdikkleaaWInvWords
import Derived.Test.YtjpknbjdikkleaaWGuard
import Derived.Test.YtjpknbjdikkleaaWNEv
import Derived.Test.YtjpknbjdikkleaaWMore
namespace Go.Proofs.Ytjpknbjdikkleaa.MFnExactConjugateWord
open Go.RowKit Go.Proofs.YtjpknbjdikkleaaW.PrintWords Go.Proofs.YtjpknbjdikkleaaW.PrintLast Go.Proofs.YtjpknbjdikkleaaW.PrintMore
attribute [local go_sem] max2_int min2_int max_two min_two max_three min_three max_four min_four   -- for this text's walks alone
set_option linter.unusedVariables false
set_option linter.unusedSimpArgs false



def errW : Option Int → Value
  | none => .nilIface
  | some c => .iface 0 (.int .i64 c)
theorem errW_none : errW none = .nilIface := rfl
theorem errW_some (c : Int) : errW (some c) = .iface 0 (.int .i64 c) := rfl

theorem info2 : (Try.prog.info? 2).map (fun i => (i.zero, i.size, i.bytes)) = some (some (.int .i64 0), 1, 8) := by kernel_rfl
-- the values' own types

end Go.Proofs.Ytjpknbjdikkleaa.MFnExactConjugateWord
