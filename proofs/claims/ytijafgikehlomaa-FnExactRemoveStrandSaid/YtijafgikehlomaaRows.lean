/-
  No cell of these rows narrows 'for every input' (looked for: loops, veiled, ifaces, maps, wideKeys, modest, calm, conditions, laid).
  DERIVED. THE GIVEN ROWS OF THIS SEAT. 12 by the template 'for every input the law returns true; each argument reads behind the call as it read before'; 0 by the template 'total and deterministic' (their statements: YtijafgikehlomaaTotals.lean).
  GIVEN WITH THE SEED: the statements are not yours to turn. If you find one false, say at which input.
  Laid BY PROGRAM, IN A SANDBOX (cutbox-rows.mjs): the forced cells as the released guide's own fill.sh prints them over the translation 34f4a83228d9c813… (all of the seat's roots in one cut). By AI agents, Wed Nov 11 2026. No macro, syntax, notation, axiom, sorry.
-/
import Derived.Test.YtijafgikehlomaaChecked
import GoSem.Claim
import GoSem.ClaimJoined
import GoSem.ClaimMapViews
import Derived.JoinedTies
import Derived.KernelRfl
namespace Go.Proofs.Ytijafgikehlomaa
/- THE CELL 'sum', in the pinned program and in every row, IS THE sha256 OF THE DUMP (.gsa) THAT YtijafgikehlomaaProg.lean LOADS. Nothing in Lean hashes anything: it is a label: what it is worth is what the hold of that sum in a sandbox is worth. -/
noncomputable def Try.pinned : Pinned := { name := "ytijafgikehlomaa", sum := "34f4a83228d9c813edd91b23c598343d2c990a2ecb250467e73033ccb9b87397", checked := Try.checked }
namespace Rows
def none {H : Type} : Left H := { results := [], args := [] }

/-- 'laws.FnExactNewDesk': WHATEVER THE INPUT: true; the input reads as it did. -/
def fnExactNewDeskSpec : ChangeSpec := { name := "fnExactNewDesk", fn := fun _ => fun
  | [] => { results := [.lit (.bool true)], args := [] }
  | _ => none }
def fnExactNewDeskRow : OpenClaim := { program := "ytijafgikehlomaa", sum := "34f4a83228d9c813edd91b23c598343d2c990a2ecb250467e73033ccb9b87397", func := "loop.example/g01205/laws.FnExactNewDesk", spec := "fnExactNewDesk", apart := false }
def FnExactNewDeskSaid : Prop := fnExactNewDeskRow.holds Try.pinned (OpenSpec.ofChange fnExactNewDeskSpec)

/-- ITS FALSE NEIGHBOUR: 'it returns false'. Refute it at one input. -/
def fnExactNewDeskWrong : ChangeSpec := { name := "fnExactNewDesk", fn := fun _ => fun
  | [] => { results := [.lit (.bool false)], args := [] }
  | _ => none }
def FnExactNewDeskWrongFalsely : Prop := fnExactNewDeskRow.holds Try.pinned (OpenSpec.ofChange fnExactNewDeskWrong)

/-- 'laws.FnExactGeneratorOf': WHATEVER THE INPUT: true; the input reads as it did. -/
def fnExactGeneratorOfSpec : ChangeSpec := { name := "fnExactGeneratorOf", fn := fun _ => fun
  | [d1, d2, d3] => { results := [.lit (.bool true)], args := [d1, d2, d3] }
  | _ => none }
def fnExactGeneratorOfRow : OpenClaim := { program := "ytijafgikehlomaa", sum := "34f4a83228d9c813edd91b23c598343d2c990a2ecb250467e73033ccb9b87397", func := "loop.example/g01205/laws.FnExactGeneratorOf", spec := "fnExactGeneratorOf", apart := false }
def FnExactGeneratorOfSaid : Prop := fnExactGeneratorOfRow.holds Try.pinned (OpenSpec.ofChange fnExactGeneratorOfSpec)

/-- ITS FALSE NEIGHBOUR: 'it returns false'. Refute it at one input. -/
def fnExactGeneratorOfWrong : ChangeSpec := { name := "fnExactGeneratorOf", fn := fun _ => fun
  | [d1, d2, d3] => { results := [.lit (.bool false)], args := [d1, d2, d3] }
  | _ => none }
def FnExactGeneratorOfWrongFalsely : Prop := fnExactGeneratorOfRow.holds Try.pinned (OpenSpec.ofChange fnExactGeneratorOfWrong)

/-- 'laws.FnExactSeifertNumber': WHATEVER THE INPUT: true; the input reads as it did. -/
def fnExactSeifertNumberSpec : ChangeSpec := { name := "fnExactSeifertNumber", fn := fun _ => fun
  | [d] => { results := [.lit (.bool true)], args := [d] }
  | _ => none }
def fnExactSeifertNumberRow : OpenClaim := { program := "ytijafgikehlomaa", sum := "34f4a83228d9c813edd91b23c598343d2c990a2ecb250467e73033ccb9b87397", func := "loop.example/g01205/laws.FnExactSeifertNumber", spec := "fnExactSeifertNumber", apart := false }
def FnExactSeifertNumberSaid : Prop := fnExactSeifertNumberRow.holds Try.pinned (OpenSpec.ofChange fnExactSeifertNumberSpec)

/-- ITS FALSE NEIGHBOUR: 'it returns false'. Refute it at one input. -/
def fnExactSeifertNumberWrong : ChangeSpec := { name := "fnExactSeifertNumber", fn := fun _ => fun
  | [d] => { results := [.lit (.bool false)], args := [d] }
  | _ => none }
def FnExactSeifertNumberWrongFalsely : Prop := fnExactSeifertNumberRow.holds Try.pinned (OpenSpec.ofChange fnExactSeifertNumberWrong)

/-- 'laws.FnExactInverseFree': WHATEVER THE INPUT: true; the input reads as it did. -/
def fnExactInverseFreeSpec : ChangeSpec := { name := "fnExactInverseFree", fn := fun _ => fun
  | [d1, d2] => { results := [.lit (.bool true)], args := [d1, d2] }
  | _ => none }
def fnExactInverseFreeRow : OpenClaim := { program := "ytijafgikehlomaa", sum := "34f4a83228d9c813edd91b23c598343d2c990a2ecb250467e73033ccb9b87397", func := "loop.example/g01205/laws.FnExactInverseFree", spec := "fnExactInverseFree", apart := false }
def FnExactInverseFreeSaid : Prop := fnExactInverseFreeRow.holds Try.pinned (OpenSpec.ofChange fnExactInverseFreeSpec)

/-- ITS FALSE NEIGHBOUR: 'it returns false'. Refute it at one input. -/
def fnExactInverseFreeWrong : ChangeSpec := { name := "fnExactInverseFree", fn := fun _ => fun
  | [d1, d2] => { results := [.lit (.bool false)], args := [d1, d2] }
  | _ => none }
def FnExactInverseFreeWrongFalsely : Prop := fnExactInverseFreeRow.holds Try.pinned (OpenSpec.ofChange fnExactInverseFreeWrong)

/-- 'laws.FnExactIsFieldMatrix': WHATEVER THE INPUT: true; the input reads as it did. -/
def fnExactIsFieldMatrixSpec : ChangeSpec := { name := "fnExactIsFieldMatrix", fn := fun _ => fun
  | [d] => { results := [.lit (.bool true)], args := [d] }
  | _ => none }
def fnExactIsFieldMatrixRow : OpenClaim := { program := "ytijafgikehlomaa", sum := "34f4a83228d9c813edd91b23c598343d2c990a2ecb250467e73033ccb9b87397", func := "loop.example/g01205/laws.FnExactIsFieldMatrix", spec := "fnExactIsFieldMatrix", apart := false }
def FnExactIsFieldMatrixSaid : Prop := fnExactIsFieldMatrixRow.holds Try.pinned (OpenSpec.ofChange fnExactIsFieldMatrixSpec)

/-- ITS FALSE NEIGHBOUR: 'it returns false'. Refute it at one input. -/
def fnExactIsFieldMatrixWrong : ChangeSpec := { name := "fnExactIsFieldMatrix", fn := fun _ => fun
  | [d] => { results := [.lit (.bool false)], args := [d] }
  | _ => none }
def FnExactIsFieldMatrixWrongFalsely : Prop := fnExactIsFieldMatrixRow.holds Try.pinned (OpenSpec.ofChange fnExactIsFieldMatrixWrong)

/-- 'laws.FnExactTorusBraid': WHATEVER THE INPUT: true; the input reads as it did. -/
def fnExactTorusBraidSpec : ChangeSpec := { name := "fnExactTorusBraid", fn := fun _ => fun
  | [d1, d2] => { results := [.lit (.bool true)], args := [d1, d2] }
  | _ => none }
def fnExactTorusBraidRow : OpenClaim := { program := "ytijafgikehlomaa", sum := "34f4a83228d9c813edd91b23c598343d2c990a2ecb250467e73033ccb9b87397", func := "loop.example/g01205/laws.FnExactTorusBraid", spec := "fnExactTorusBraid", apart := false }
def FnExactTorusBraidSaid : Prop := fnExactTorusBraidRow.holds Try.pinned (OpenSpec.ofChange fnExactTorusBraidSpec)

/-- ITS FALSE NEIGHBOUR: 'it returns false'. Refute it at one input. -/
def fnExactTorusBraidWrong : ChangeSpec := { name := "fnExactTorusBraid", fn := fun _ => fun
  | [d1, d2] => { results := [.lit (.bool false)], args := [d1, d2] }
  | _ => none }
def FnExactTorusBraidWrongFalsely : Prop := fnExactTorusBraidRow.holds Try.pinned (OpenSpec.ofChange fnExactTorusBraidWrong)

/-- 'laws.FnExactIsComb': WHATEVER THE INPUT: true; the input reads as it did. -/
def fnExactIsCombSpec : ChangeSpec := { name := "fnExactIsComb", fn := fun _ => fun
  | [d1, d2] => { results := [.lit (.bool true)], args := [d1, d2] }
  | _ => none }
def fnExactIsCombRow : OpenClaim := { program := "ytijafgikehlomaa", sum := "34f4a83228d9c813edd91b23c598343d2c990a2ecb250467e73033ccb9b87397", func := "loop.example/g01205/laws.FnExactIsComb", spec := "fnExactIsComb", apart := false }
def FnExactIsCombSaid : Prop := fnExactIsCombRow.holds Try.pinned (OpenSpec.ofChange fnExactIsCombSpec)

/-- ITS FALSE NEIGHBOUR: 'it returns false'. Refute it at one input. -/
def fnExactIsCombWrong : ChangeSpec := { name := "fnExactIsComb", fn := fun _ => fun
  | [d1, d2] => { results := [.lit (.bool false)], args := [d1, d2] }
  | _ => none }
def FnExactIsCombWrongFalsely : Prop := fnExactIsCombRow.holds Try.pinned (OpenSpec.ofChange fnExactIsCombWrong)

/-- 'laws.FnExactIsDesk': WHATEVER THE INPUT: true; the input reads as it did. -/
def fnExactIsDeskSpec : ChangeSpec := { name := "fnExactIsDesk", fn := fun _ => fun
  | [d] => { results := [.lit (.bool true)], args := [d] }
  | _ => none }
def fnExactIsDeskRow : OpenClaim := { program := "ytijafgikehlomaa", sum := "34f4a83228d9c813edd91b23c598343d2c990a2ecb250467e73033ccb9b87397", func := "loop.example/g01205/laws.FnExactIsDesk", spec := "fnExactIsDesk", apart := false }
def FnExactIsDeskSaid : Prop := fnExactIsDeskRow.holds Try.pinned (OpenSpec.ofChange fnExactIsDeskSpec)

/-- ITS FALSE NEIGHBOUR: 'it returns false'. Refute it at one input. -/
def fnExactIsDeskWrong : ChangeSpec := { name := "fnExactIsDesk", fn := fun _ => fun
  | [d] => { results := [.lit (.bool false)], args := [d] }
  | _ => none }
def FnExactIsDeskWrongFalsely : Prop := fnExactIsDeskRow.holds Try.pinned (OpenSpec.ofChange fnExactIsDeskWrong)

/-- 'laws.FnExactMultiplyFree': WHATEVER THE INPUT: true; the input reads as it did. -/
def fnExactMultiplyFreeSpec : ChangeSpec := { name := "fnExactMultiplyFree", fn := fun _ => fun
  | [d1, d2, d3] => { results := [.lit (.bool true)], args := [d1, d2, d3] }
  | _ => none }
def fnExactMultiplyFreeRow : OpenClaim := { program := "ytijafgikehlomaa", sum := "34f4a83228d9c813edd91b23c598343d2c990a2ecb250467e73033ccb9b87397", func := "loop.example/g01205/laws.FnExactMultiplyFree", spec := "fnExactMultiplyFree", apart := false }
def FnExactMultiplyFreeSaid : Prop := fnExactMultiplyFreeRow.holds Try.pinned (OpenSpec.ofChange fnExactMultiplyFreeSpec)

/-- ITS FALSE NEIGHBOUR: 'it returns false'. Refute it at one input. -/
def fnExactMultiplyFreeWrong : ChangeSpec := { name := "fnExactMultiplyFree", fn := fun _ => fun
  | [d1, d2, d3] => { results := [.lit (.bool false)], args := [d1, d2, d3] }
  | _ => none }
def FnExactMultiplyFreeWrongFalsely : Prop := fnExactMultiplyFreeRow.holds Try.pinned (OpenSpec.ofChange fnExactMultiplyFreeWrong)

/-- 'laws.FnExactTraceIn': WHATEVER THE INPUT: true; the input reads as it did. -/
def fnExactTraceInSpec : ChangeSpec := { name := "fnExactTraceIn", fn := fun _ => fun
  | [d] => { results := [.lit (.bool true)], args := [d] }
  | _ => none }
def fnExactTraceInRow : OpenClaim := { program := "ytijafgikehlomaa", sum := "34f4a83228d9c813edd91b23c598343d2c990a2ecb250467e73033ccb9b87397", func := "loop.example/g01205/laws.FnExactTraceIn", spec := "fnExactTraceIn", apart := false }
def FnExactTraceInSaid : Prop := fnExactTraceInRow.holds Try.pinned (OpenSpec.ofChange fnExactTraceInSpec)

/-- ITS FALSE NEIGHBOUR: 'it returns false'. Refute it at one input. -/
def fnExactTraceInWrong : ChangeSpec := { name := "fnExactTraceIn", fn := fun _ => fun
  | [d] => { results := [.lit (.bool false)], args := [d] }
  | _ => none }
def FnExactTraceInWrongFalsely : Prop := fnExactTraceInRow.holds Try.pinned (OpenSpec.ofChange fnExactTraceInWrong)

/-- 'laws.FnExactAddStrand': WHATEVER THE INPUT: true; the input reads as it did. -/
def fnExactAddStrandSpec : ChangeSpec := { name := "fnExactAddStrand", fn := fun _ => fun
  | [d1, d2] => { results := [.lit (.bool true)], args := [d1, d2] }
  | _ => none }
def fnExactAddStrandRow : OpenClaim := { program := "ytijafgikehlomaa", sum := "34f4a83228d9c813edd91b23c598343d2c990a2ecb250467e73033ccb9b87397", func := "loop.example/g01205/laws.FnExactAddStrand", spec := "fnExactAddStrand", apart := false }
def FnExactAddStrandSaid : Prop := fnExactAddStrandRow.holds Try.pinned (OpenSpec.ofChange fnExactAddStrandSpec)

/-- ITS FALSE NEIGHBOUR: 'it returns false'. Refute it at one input. -/
def fnExactAddStrandWrong : ChangeSpec := { name := "fnExactAddStrand", fn := fun _ => fun
  | [d1, d2] => { results := [.lit (.bool false)], args := [d1, d2] }
  | _ => none }
def FnExactAddStrandWrongFalsely : Prop := fnExactAddStrandRow.holds Try.pinned (OpenSpec.ofChange fnExactAddStrandWrong)

/-- 'laws.FnExactRemoveStrand': WHATEVER THE INPUT: true; the input reads as it did. -/
def fnExactRemoveStrandSpec : ChangeSpec := { name := "fnExactRemoveStrand", fn := fun _ => fun
  | [d] => { results := [.lit (.bool true)], args := [d] }
  | _ => none }
def fnExactRemoveStrandRow : OpenClaim := { program := "ytijafgikehlomaa", sum := "34f4a83228d9c813edd91b23c598343d2c990a2ecb250467e73033ccb9b87397", func := "loop.example/g01205/laws.FnExactRemoveStrand", spec := "fnExactRemoveStrand", apart := false }
def FnExactRemoveStrandSaid : Prop := fnExactRemoveStrandRow.holds Try.pinned (OpenSpec.ofChange fnExactRemoveStrandSpec)

/-- ITS FALSE NEIGHBOUR: 'it returns false'. Refute it at one input. -/
def fnExactRemoveStrandWrong : ChangeSpec := { name := "fnExactRemoveStrand", fn := fun _ => fun
  | [d] => { results := [.lit (.bool false)], args := [d] }
  | _ => none }
def FnExactRemoveStrandWrongFalsely : Prop := fnExactRemoveStrandRow.holds Try.pinned (OpenSpec.ofChange fnExactRemoveStrandWrong)

/- THE SECOND FORM. 'bulk': how many values and letters a reading holds, each counted each time it is reached (what is shared counts as often as it is met; a slice's spare places count too). A statement '..UptoSaid' is the law's where the arguments, and the package variables that the reading takes, are together of bulk at most 1048576: NARROWER than '..Said'. Prove '..Said' where nothing that the law and all that it calls make is longer than what came in: it says more and counts as full. Else prove '..UptoSaid'. A law counts once. -/
mutual
def uptoBulk {H : Type} : DataW H → Nat
  | .lit (.string bytes) => bytes.length + 1
  | .lit _ => 1
  | .nil => 1
  | .ptr d => uptoBulk d + 1
  | .slice elems spare => uptoBulkAll elems + uptoBulkAll spare + 1
  | .agg parts => uptoBulkAll parts + 1
  | .iface _ d => uptoBulk d + 1
  | .map entries => uptoBulkEntries entries + 1
  | .held _ => 1
def uptoBulkAll {H : Type} : List (DataW H) → Nat
  | [] => 0
  | d :: r => uptoBulk d + uptoBulkAll r
def uptoBulkEntries {H : Type} : List (Lit × DataW H) → Nat
  | [] => 0
  | x :: r => uptoBulkEntry x + uptoBulkEntries r
def uptoBulkEntry {H : Type} : Lit × DataW H → Nat
  | (.string bytes, d) => bytes.length + uptoBulk d + 1
  | (_, d) => uptoBulk d + 1
 end
def uptoSmall : (H : Type) → List (DataW H) → Bool := fun _ ds => decide (uptoBulkAll ds ≤ 1048576)
def OpenSpec.upto (s : _root_.Go.ChangeSpec) : _root_.Go.OpenSpec := { _root_.Go.OpenSpec.ofChange s with cond := some uptoSmall }

/-- 'laws.FnExactNewDesk', WHERE WHAT IT READS IS OF BULK AT MOST 1048576: true; the input reads as it did. -/
def fnExactNewDeskUptoRow : OpenClaim := { program := "ytijafgikehlomaa", sum := "34f4a83228d9c813edd91b23c598343d2c990a2ecb250467e73033ccb9b87397", func := "loop.example/g01205/laws.FnExactNewDesk", spec := "fnExactNewDesk", apart := false, narrowed := true }
def FnExactNewDeskUptoSaid : Prop := fnExactNewDeskUptoRow.holds Try.pinned (OpenSpec.upto fnExactNewDeskSpec)

/-- 'laws.FnExactGeneratorOf', WHERE WHAT IT READS IS OF BULK AT MOST 1048576: true; the input reads as it did. -/
def fnExactGeneratorOfUptoRow : OpenClaim := { program := "ytijafgikehlomaa", sum := "34f4a83228d9c813edd91b23c598343d2c990a2ecb250467e73033ccb9b87397", func := "loop.example/g01205/laws.FnExactGeneratorOf", spec := "fnExactGeneratorOf", apart := false, narrowed := true }
def FnExactGeneratorOfUptoSaid : Prop := fnExactGeneratorOfUptoRow.holds Try.pinned (OpenSpec.upto fnExactGeneratorOfSpec)

/-- 'laws.FnExactSeifertNumber', WHERE WHAT IT READS IS OF BULK AT MOST 1048576: true; the input reads as it did. -/
def fnExactSeifertNumberUptoRow : OpenClaim := { program := "ytijafgikehlomaa", sum := "34f4a83228d9c813edd91b23c598343d2c990a2ecb250467e73033ccb9b87397", func := "loop.example/g01205/laws.FnExactSeifertNumber", spec := "fnExactSeifertNumber", apart := false, narrowed := true }
def FnExactSeifertNumberUptoSaid : Prop := fnExactSeifertNumberUptoRow.holds Try.pinned (OpenSpec.upto fnExactSeifertNumberSpec)

/-- 'laws.FnExactInverseFree', WHERE WHAT IT READS IS OF BULK AT MOST 1048576: true; the input reads as it did. -/
def fnExactInverseFreeUptoRow : OpenClaim := { program := "ytijafgikehlomaa", sum := "34f4a83228d9c813edd91b23c598343d2c990a2ecb250467e73033ccb9b87397", func := "loop.example/g01205/laws.FnExactInverseFree", spec := "fnExactInverseFree", apart := false, narrowed := true }
def FnExactInverseFreeUptoSaid : Prop := fnExactInverseFreeUptoRow.holds Try.pinned (OpenSpec.upto fnExactInverseFreeSpec)

/-- 'laws.FnExactIsFieldMatrix', WHERE WHAT IT READS IS OF BULK AT MOST 1048576: true; the input reads as it did. -/
def fnExactIsFieldMatrixUptoRow : OpenClaim := { program := "ytijafgikehlomaa", sum := "34f4a83228d9c813edd91b23c598343d2c990a2ecb250467e73033ccb9b87397", func := "loop.example/g01205/laws.FnExactIsFieldMatrix", spec := "fnExactIsFieldMatrix", apart := false, narrowed := true }
def FnExactIsFieldMatrixUptoSaid : Prop := fnExactIsFieldMatrixUptoRow.holds Try.pinned (OpenSpec.upto fnExactIsFieldMatrixSpec)

/-- 'laws.FnExactTorusBraid', WHERE WHAT IT READS IS OF BULK AT MOST 1048576: true; the input reads as it did. -/
def fnExactTorusBraidUptoRow : OpenClaim := { program := "ytijafgikehlomaa", sum := "34f4a83228d9c813edd91b23c598343d2c990a2ecb250467e73033ccb9b87397", func := "loop.example/g01205/laws.FnExactTorusBraid", spec := "fnExactTorusBraid", apart := false, narrowed := true }
def FnExactTorusBraidUptoSaid : Prop := fnExactTorusBraidUptoRow.holds Try.pinned (OpenSpec.upto fnExactTorusBraidSpec)

/-- 'laws.FnExactIsComb', WHERE WHAT IT READS IS OF BULK AT MOST 1048576: true; the input reads as it did. -/
def fnExactIsCombUptoRow : OpenClaim := { program := "ytijafgikehlomaa", sum := "34f4a83228d9c813edd91b23c598343d2c990a2ecb250467e73033ccb9b87397", func := "loop.example/g01205/laws.FnExactIsComb", spec := "fnExactIsComb", apart := false, narrowed := true }
def FnExactIsCombUptoSaid : Prop := fnExactIsCombUptoRow.holds Try.pinned (OpenSpec.upto fnExactIsCombSpec)

/-- 'laws.FnExactIsDesk', WHERE WHAT IT READS IS OF BULK AT MOST 1048576: true; the input reads as it did. -/
def fnExactIsDeskUptoRow : OpenClaim := { program := "ytijafgikehlomaa", sum := "34f4a83228d9c813edd91b23c598343d2c990a2ecb250467e73033ccb9b87397", func := "loop.example/g01205/laws.FnExactIsDesk", spec := "fnExactIsDesk", apart := false, narrowed := true }
def FnExactIsDeskUptoSaid : Prop := fnExactIsDeskUptoRow.holds Try.pinned (OpenSpec.upto fnExactIsDeskSpec)

/-- 'laws.FnExactMultiplyFree', WHERE WHAT IT READS IS OF BULK AT MOST 1048576: true; the input reads as it did. -/
def fnExactMultiplyFreeUptoRow : OpenClaim := { program := "ytijafgikehlomaa", sum := "34f4a83228d9c813edd91b23c598343d2c990a2ecb250467e73033ccb9b87397", func := "loop.example/g01205/laws.FnExactMultiplyFree", spec := "fnExactMultiplyFree", apart := false, narrowed := true }
def FnExactMultiplyFreeUptoSaid : Prop := fnExactMultiplyFreeUptoRow.holds Try.pinned (OpenSpec.upto fnExactMultiplyFreeSpec)

/-- 'laws.FnExactTraceIn', WHERE WHAT IT READS IS OF BULK AT MOST 1048576: true; the input reads as it did. -/
def fnExactTraceInUptoRow : OpenClaim := { program := "ytijafgikehlomaa", sum := "34f4a83228d9c813edd91b23c598343d2c990a2ecb250467e73033ccb9b87397", func := "loop.example/g01205/laws.FnExactTraceIn", spec := "fnExactTraceIn", apart := false, narrowed := true }
def FnExactTraceInUptoSaid : Prop := fnExactTraceInUptoRow.holds Try.pinned (OpenSpec.upto fnExactTraceInSpec)

/-- 'laws.FnExactAddStrand', WHERE WHAT IT READS IS OF BULK AT MOST 1048576: true; the input reads as it did. -/
def fnExactAddStrandUptoRow : OpenClaim := { program := "ytijafgikehlomaa", sum := "34f4a83228d9c813edd91b23c598343d2c990a2ecb250467e73033ccb9b87397", func := "loop.example/g01205/laws.FnExactAddStrand", spec := "fnExactAddStrand", apart := false, narrowed := true }
def FnExactAddStrandUptoSaid : Prop := fnExactAddStrandUptoRow.holds Try.pinned (OpenSpec.upto fnExactAddStrandSpec)

/-- 'laws.FnExactRemoveStrand', WHERE WHAT IT READS IS OF BULK AT MOST 1048576: true; the input reads as it did. -/
def fnExactRemoveStrandUptoRow : OpenClaim := { program := "ytijafgikehlomaa", sum := "34f4a83228d9c813edd91b23c598343d2c990a2ecb250467e73033ccb9b87397", func := "loop.example/g01205/laws.FnExactRemoveStrand", spec := "fnExactRemoveStrand", apart := false, narrowed := true }
def FnExactRemoveStrandUptoSaid : Prop := fnExactRemoveStrandUptoRow.holds Try.pinned (OpenSpec.upto fnExactRemoveStrandSpec)

end Rows
end Go.Proofs.Ytijafgikehlomaa
