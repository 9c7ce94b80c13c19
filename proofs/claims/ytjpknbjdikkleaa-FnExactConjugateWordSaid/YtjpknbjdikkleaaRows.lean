/-
  No cell of these rows narrows 'for every input' (looked for: loops, veiled, ifaces, maps, wideKeys, modest, calm, conditions, laid).
  DERIVED. THE GIVEN ROWS OF THIS SEAT. 12 by the template 'for every input the law returns true; each argument reads behind the call as it read before'; 0 by the template 'total and deterministic' (their statements: YtjpknbjdikkleaaTotals.lean).
  GIVEN WITH THE SEED: the statements are not yours to turn. If you find one false, say at which input.
  Laid BY PROGRAM, IN A SANDBOX (cutbox-rows.mjs): the forced cells as the released guide's own fill.sh prints them over the translation b2251c9a1c922648… (all of the seat's roots in one cut). By AI agents, Wed Nov 11 2026. No macro, syntax, notation, axiom, sorry.
-/
import Derived.Test.YtjpknbjdikkleaaChecked
import GoSem.Claim
import GoSem.ClaimJoined
import GoSem.ClaimMapViews
import Derived.JoinedTies
import Derived.KernelRfl
namespace Go.Proofs.Ytjpknbjdikkleaa
/- THE CELL 'sum', in the pinned program and in every row, IS THE sha256 OF THE DUMP (.gsa) THAT YtjpknbjdikkleaaProg.lean LOADS. Nothing in Lean hashes anything: it is a label: what it is worth is what the hold of that sum in a sandbox is worth. -/
noncomputable def Try.pinned : Pinned := { name := "ytjpknbjdikkleaa", sum := "b2251c9a1c9226484c22d0f14a088ea4b568efc585b1a658b04af376e8d6515d", checked := Try.checked }
namespace Rows
def none {H : Type} : Left H := { results := [], args := [] }

/-- 'laws.FnExactConjugateWord': WHATEVER THE INPUT: true; the input reads as it did. -/
def fnExactConjugateWordSpec : ChangeSpec := { name := "fnExactConjugateWord", fn := fun _ => fun
  | [d1, d2] => { results := [.lit (.bool true)], args := [d1, d2] }
  | _ => none }
def fnExactConjugateWordRow : OpenClaim := { program := "ytjpknbjdikkleaa", sum := "b2251c9a1c9226484c22d0f14a088ea4b568efc585b1a658b04af376e8d6515d", func := "loop.example/g01205/laws.FnExactConjugateWord", spec := "fnExactConjugateWord", apart := false }
def FnExactConjugateWordSaid : Prop := fnExactConjugateWordRow.holds Try.pinned (OpenSpec.ofChange fnExactConjugateWordSpec)

/-- ITS FALSE NEIGHBOUR: 'it returns false'. Refute it at one input. -/
def fnExactConjugateWordWrong : ChangeSpec := { name := "fnExactConjugateWord", fn := fun _ => fun
  | [d1, d2] => { results := [.lit (.bool false)], args := [d1, d2] }
  | _ => none }
def FnExactConjugateWordWrongFalsely : Prop := fnExactConjugateWordRow.holds Try.pinned (OpenSpec.ofChange fnExactConjugateWordWrong)

/-- 'laws.FnExactForgetStrand': WHATEVER THE INPUT: true; the input reads as it did. -/
def fnExactForgetStrandSpec : ChangeSpec := { name := "fnExactForgetStrand", fn := fun _ => fun
  | [d1, d2] => { results := [.lit (.bool true)], args := [d1, d2] }
  | _ => none }
def fnExactForgetStrandRow : OpenClaim := { program := "ytjpknbjdikkleaa", sum := "b2251c9a1c9226484c22d0f14a088ea4b568efc585b1a658b04af376e8d6515d", func := "loop.example/g01205/laws.FnExactForgetStrand", spec := "fnExactForgetStrand", apart := false }
def FnExactForgetStrandSaid : Prop := fnExactForgetStrandRow.holds Try.pinned (OpenSpec.ofChange fnExactForgetStrandSpec)

/-- ITS FALSE NEIGHBOUR: 'it returns false'. Refute it at one input. -/
def fnExactForgetStrandWrong : ChangeSpec := { name := "fnExactForgetStrand", fn := fun _ => fun
  | [d1, d2] => { results := [.lit (.bool false)], args := [d1, d2] }
  | _ => none }
def FnExactForgetStrandWrongFalsely : Prop := fnExactForgetStrandRow.holds Try.pinned (OpenSpec.ofChange fnExactForgetStrandWrong)

/-- 'laws.FnExactDoubleStrand': WHATEVER THE INPUT: true; the input reads as it did. -/
def fnExactDoubleStrandSpec : ChangeSpec := { name := "fnExactDoubleStrand", fn := fun _ => fun
  | [d1, d2] => { results := [.lit (.bool true)], args := [d1, d2] }
  | _ => none }
def fnExactDoubleStrandRow : OpenClaim := { program := "ytjpknbjdikkleaa", sum := "b2251c9a1c9226484c22d0f14a088ea4b568efc585b1a658b04af376e8d6515d", func := "loop.example/g01205/laws.FnExactDoubleStrand", spec := "fnExactDoubleStrand", apart := false }
def FnExactDoubleStrandSaid : Prop := fnExactDoubleStrandRow.holds Try.pinned (OpenSpec.ofChange fnExactDoubleStrandSpec)

/-- ITS FALSE NEIGHBOUR: 'it returns false'. Refute it at one input. -/
def fnExactDoubleStrandWrong : ChangeSpec := { name := "fnExactDoubleStrand", fn := fun _ => fun
  | [d1, d2] => { results := [.lit (.bool false)], args := [d1, d2] }
  | _ => none }
def FnExactDoubleStrandWrongFalsely : Prop := fnExactDoubleStrandRow.holds Try.pinned (OpenSpec.ofChange fnExactDoubleStrandWrong)

/-- 'laws.FnExactMultiplyMatrices': WHATEVER THE INPUT: true; the input reads as it did. -/
def fnExactMultiplyMatricesSpec : ChangeSpec := { name := "fnExactMultiplyMatrices", fn := fun _ => fun
  | [d1, d2] => { results := [.lit (.bool true)], args := [d1, d2] }
  | _ => none }
def fnExactMultiplyMatricesRow : OpenClaim := { program := "ytjpknbjdikkleaa", sum := "b2251c9a1c9226484c22d0f14a088ea4b568efc585b1a658b04af376e8d6515d", func := "loop.example/g01205/laws.FnExactMultiplyMatrices", spec := "fnExactMultiplyMatrices", apart := false }
def FnExactMultiplyMatricesSaid : Prop := fnExactMultiplyMatricesRow.holds Try.pinned (OpenSpec.ofChange fnExactMultiplyMatricesSpec)

/-- ITS FALSE NEIGHBOUR: 'it returns false'. Refute it at one input. -/
def fnExactMultiplyMatricesWrong : ChangeSpec := { name := "fnExactMultiplyMatrices", fn := fun _ => fun
  | [d1, d2] => { results := [.lit (.bool false)], args := [d1, d2] }
  | _ => none }
def FnExactMultiplyMatricesWrongFalsely : Prop := fnExactMultiplyMatricesRow.holds Try.pinned (OpenSpec.ofChange fnExactMultiplyMatricesWrong)

/-- 'laws.FnExactColourStep': WHATEVER THE INPUT: true; the input reads as it did. -/
def fnExactColourStepSpec : ChangeSpec := { name := "fnExactColourStep", fn := fun _ => fun
  | [d1, d2, d3] => { results := [.lit (.bool true)], args := [d1, d2, d3] }
  | _ => none }
def fnExactColourStepRow : OpenClaim := { program := "ytjpknbjdikkleaa", sum := "b2251c9a1c9226484c22d0f14a088ea4b568efc585b1a658b04af376e8d6515d", func := "loop.example/g01205/laws.FnExactColourStep", spec := "fnExactColourStep", unfollowed := true, recurses := true, apart := false }
def FnExactColourStepSaid : Prop := fnExactColourStepRow.holds Try.pinned (OpenSpec.ofChange fnExactColourStepSpec)

/-- ITS FALSE NEIGHBOUR: 'it returns false'. Refute it at one input. -/
def fnExactColourStepWrong : ChangeSpec := { name := "fnExactColourStep", fn := fun _ => fun
  | [d1, d2, d3] => { results := [.lit (.bool false)], args := [d1, d2, d3] }
  | _ => none }
def FnExactColourStepWrongFalsely : Prop := fnExactColourStepRow.holds Try.pinned (OpenSpec.ofChange fnExactColourStepWrong)

/-- 'laws.FnExactIsColouring': WHATEVER THE INPUT: true; the input reads as it did. -/
def fnExactIsColouringSpec : ChangeSpec := { name := "fnExactIsColouring", fn := fun _ => fun
  | [d1, d2, d3] => { results := [.lit (.bool true)], args := [d1, d2, d3] }
  | _ => none }
def fnExactIsColouringRow : OpenClaim := { program := "ytjpknbjdikkleaa", sum := "b2251c9a1c9226484c22d0f14a088ea4b568efc585b1a658b04af376e8d6515d", func := "loop.example/g01205/laws.FnExactIsColouring", spec := "fnExactIsColouring", unfollowed := true, recurses := true, apart := false }
def FnExactIsColouringSaid : Prop := fnExactIsColouringRow.holds Try.pinned (OpenSpec.ofChange fnExactIsColouringSpec)

/-- ITS FALSE NEIGHBOUR: 'it returns false'. Refute it at one input. -/
def fnExactIsColouringWrong : ChangeSpec := { name := "fnExactIsColouring", fn := fun _ => fun
  | [d1, d2, d3] => { results := [.lit (.bool false)], args := [d1, d2, d3] }
  | _ => none }
def FnExactIsColouringWrongFalsely : Prop := fnExactIsColouringRow.holds Try.pinned (OpenSpec.ofChange fnExactIsColouringWrong)

/-- 'laws.FnExactCountColourings': WHATEVER THE INPUT: true; the input reads as it did. -/
def fnExactCountColouringsSpec : ChangeSpec := { name := "fnExactCountColourings", fn := fun _ => fun
  | [d1, d2] => { results := [.lit (.bool true)], args := [d1, d2] }
  | _ => none }
def fnExactCountColouringsRow : OpenClaim := { program := "ytjpknbjdikkleaa", sum := "b2251c9a1c9226484c22d0f14a088ea4b568efc585b1a658b04af376e8d6515d", func := "loop.example/g01205/laws.FnExactCountColourings", spec := "fnExactCountColourings", apart := false }
def FnExactCountColouringsSaid : Prop := fnExactCountColouringsRow.holds Try.pinned (OpenSpec.ofChange fnExactCountColouringsSpec)

/-- ITS FALSE NEIGHBOUR: 'it returns false'. Refute it at one input. -/
def fnExactCountColouringsWrong : ChangeSpec := { name := "fnExactCountColourings", fn := fun _ => fun
  | [d1, d2] => { results := [.lit (.bool false)], args := [d1, d2] }
  | _ => none }
def FnExactCountColouringsWrongFalsely : Prop := fnExactCountColouringsRow.holds Try.pinned (OpenSpec.ofChange fnExactCountColouringsWrong)

/-- 'laws.FnExactBraidOfComb': WHATEVER THE INPUT: true; the input reads as it did. -/
def fnExactBraidOfCombSpec : ChangeSpec := { name := "fnExactBraidOfComb", fn := fun _ => fun
  | [d1, d2] => { results := [.lit (.bool true)], args := [d1, d2] }
  | _ => none }
def fnExactBraidOfCombRow : OpenClaim := { program := "ytjpknbjdikkleaa", sum := "b2251c9a1c9226484c22d0f14a088ea4b568efc585b1a658b04af376e8d6515d", func := "loop.example/g01205/laws.FnExactBraidOfComb", spec := "fnExactBraidOfComb", apart := false }
def FnExactBraidOfCombSaid : Prop := fnExactBraidOfCombRow.holds Try.pinned (OpenSpec.ofChange fnExactBraidOfCombSpec)

/-- ITS FALSE NEIGHBOUR: 'it returns false'. Refute it at one input. -/
def fnExactBraidOfCombWrong : ChangeSpec := { name := "fnExactBraidOfComb", fn := fun _ => fun
  | [d1, d2] => { results := [.lit (.bool false)], args := [d1, d2] }
  | _ => none }
def FnExactBraidOfCombWrongFalsely : Prop := fnExactBraidOfCombRow.holds Try.pinned (OpenSpec.ofChange fnExactBraidOfCombWrong)

/-- 'laws.FnExactDeterminantIn': WHATEVER THE INPUT: true; the input reads as it did. -/
def fnExactDeterminantInSpec : ChangeSpec := { name := "fnExactDeterminantIn", fn := fun _ => fun
  | [d] => { results := [.lit (.bool true)], args := [d] }
  | _ => none }
def fnExactDeterminantInRow : OpenClaim := { program := "ytjpknbjdikkleaa", sum := "b2251c9a1c9226484c22d0f14a088ea4b568efc585b1a658b04af376e8d6515d", func := "loop.example/g01205/laws.FnExactDeterminantIn", spec := "fnExactDeterminantIn", apart := false }
def FnExactDeterminantInSaid : Prop := fnExactDeterminantInRow.holds Try.pinned (OpenSpec.ofChange fnExactDeterminantInSpec)

/-- ITS FALSE NEIGHBOUR: 'it returns false'. Refute it at one input. -/
def fnExactDeterminantInWrong : ChangeSpec := { name := "fnExactDeterminantIn", fn := fun _ => fun
  | [d] => { results := [.lit (.bool false)], args := [d] }
  | _ => none }
def FnExactDeterminantInWrongFalsely : Prop := fnExactDeterminantInRow.holds Try.pinned (OpenSpec.ofChange fnExactDeterminantInWrong)

/-- 'laws.FnExactActOnFree': WHATEVER THE INPUT: true; the input reads as it did. -/
def fnExactActOnFreeSpec : ChangeSpec := { name := "fnExactActOnFree", fn := fun _ => fun
  | [d1, d2] => { results := [.lit (.bool true)], args := [d1, d2] }
  | _ => none }
def fnExactActOnFreeRow : OpenClaim := { program := "ytjpknbjdikkleaa", sum := "b2251c9a1c9226484c22d0f14a088ea4b568efc585b1a658b04af376e8d6515d", func := "loop.example/g01205/laws.FnExactActOnFree", spec := "fnExactActOnFree", apart := false }
def FnExactActOnFreeSaid : Prop := fnExactActOnFreeRow.holds Try.pinned (OpenSpec.ofChange fnExactActOnFreeSpec)

/-- ITS FALSE NEIGHBOUR: 'it returns false'. Refute it at one input. -/
def fnExactActOnFreeWrong : ChangeSpec := { name := "fnExactActOnFree", fn := fun _ => fun
  | [d1, d2] => { results := [.lit (.bool false)], args := [d1, d2] }
  | _ => none }
def FnExactActOnFreeWrongFalsely : Prop := fnExactActOnFreeRow.holds Try.pinned (OpenSpec.ofChange fnExactActOnFreeWrong)

/-- 'laws.FnExactCharacteristicOf': WHATEVER THE INPUT: true; the input reads as it did. -/
def fnExactCharacteristicOfSpec : ChangeSpec := { name := "fnExactCharacteristicOf", fn := fun _ => fun
  | [d] => { results := [.lit (.bool true)], args := [d] }
  | _ => none }
def fnExactCharacteristicOfRow : OpenClaim := { program := "ytjpknbjdikkleaa", sum := "b2251c9a1c9226484c22d0f14a088ea4b568efc585b1a658b04af376e8d6515d", func := "loop.example/g01205/laws.FnExactCharacteristicOf", spec := "fnExactCharacteristicOf", apart := false }
def FnExactCharacteristicOfSaid : Prop := fnExactCharacteristicOfRow.holds Try.pinned (OpenSpec.ofChange fnExactCharacteristicOfSpec)

/-- ITS FALSE NEIGHBOUR: 'it returns false'. Refute it at one input. -/
def fnExactCharacteristicOfWrong : ChangeSpec := { name := "fnExactCharacteristicOf", fn := fun _ => fun
  | [d] => { results := [.lit (.bool false)], args := [d] }
  | _ => none }
def FnExactCharacteristicOfWrongFalsely : Prop := fnExactCharacteristicOfRow.holds Try.pinned (OpenSpec.ofChange fnExactCharacteristicOfWrong)

/-- 'laws.FnExactImagesOf': WHATEVER THE INPUT: true; the input reads as it did. -/
def fnExactImagesOfSpec : ChangeSpec := { name := "fnExactImagesOf", fn := fun _ => fun
  | [d] => { results := [.lit (.bool true)], args := [d] }
  | _ => none }
def fnExactImagesOfRow : OpenClaim := { program := "ytjpknbjdikkleaa", sum := "b2251c9a1c9226484c22d0f14a088ea4b568efc585b1a658b04af376e8d6515d", func := "loop.example/g01205/laws.FnExactImagesOf", spec := "fnExactImagesOf", apart := false }
def FnExactImagesOfSaid : Prop := fnExactImagesOfRow.holds Try.pinned (OpenSpec.ofChange fnExactImagesOfSpec)

/-- ITS FALSE NEIGHBOUR: 'it returns false'. Refute it at one input. -/
def fnExactImagesOfWrong : ChangeSpec := { name := "fnExactImagesOf", fn := fun _ => fun
  | [d] => { results := [.lit (.bool false)], args := [d] }
  | _ => none }
def FnExactImagesOfWrongFalsely : Prop := fnExactImagesOfRow.holds Try.pinned (OpenSpec.ofChange fnExactImagesOfWrong)

/- THE SECOND FORM. 'bulk': how many values and letters a reading holds, each counted each time it is reached (what is shared counts as often as it is met; a slice's spare places count too). A statement '..UptoSaid' is the law's where the arguments, and the package variables that the reading takes, are together of bulk at most 1048576: NARROWER than '..Said'. Prove '..Said' where nothing that the law and all that it calls make is longer than what came in: it says more and counts as full. Else prove '..UptoSaid'. A law counts once. -/
mutual
def uptoBulk {H : Type} : DataW H → Nat
  | .lit (.string bytes) => bytes.length + 1
  | .lit _ => 1
  | .nil => 1
  | .ptr d => uptoBulk d + 1
  | .slice elems spare => uptoBulkAll elems + uptoBulkAll spare + 1
  | .agg parts => uptoBulkAll parts + 1
  | .iface _ d => uptoBulk d + 1
  | .map entries => uptoBulkEntries entries + 1
  | .held _ => 1
def uptoBulkAll {H : Type} : List (DataW H) → Nat
  | [] => 0
  | d :: r => uptoBulk d + uptoBulkAll r
def uptoBulkEntries {H : Type} : List (Lit × DataW H) → Nat
  | [] => 0
  | x :: r => uptoBulkEntry x + uptoBulkEntries r
def uptoBulkEntry {H : Type} : Lit × DataW H → Nat
  | (.string bytes, d) => bytes.length + uptoBulk d + 1
  | (_, d) => uptoBulk d + 1
 end
def uptoSmall : (H : Type) → List (DataW H) → Bool := fun _ ds => decide (uptoBulkAll ds ≤ 1048576)
def OpenSpec.upto (s : _root_.Go.ChangeSpec) : _root_.Go.OpenSpec := { _root_.Go.OpenSpec.ofChange s with cond := some uptoSmall }

/-- 'laws.FnExactConjugateWord', WHERE WHAT IT READS IS OF BULK AT MOST 1048576: true; the input reads as it did. -/
def fnExactConjugateWordUptoRow : OpenClaim := { program := "ytjpknbjdikkleaa", sum := "b2251c9a1c9226484c22d0f14a088ea4b568efc585b1a658b04af376e8d6515d", func := "loop.example/g01205/laws.FnExactConjugateWord", spec := "fnExactConjugateWord", apart := false, narrowed := true }
def FnExactConjugateWordUptoSaid : Prop := fnExactConjugateWordUptoRow.holds Try.pinned (OpenSpec.upto fnExactConjugateWordSpec)

/-- 'laws.FnExactForgetStrand', WHERE WHAT IT READS IS OF BULK AT MOST 1048576: true; the input reads as it did. -/
def fnExactForgetStrandUptoRow : OpenClaim := { program := "ytjpknbjdikkleaa", sum := "b2251c9a1c9226484c22d0f14a088ea4b568efc585b1a658b04af376e8d6515d", func := "loop.example/g01205/laws.FnExactForgetStrand", spec := "fnExactForgetStrand", apart := false, narrowed := true }
def FnExactForgetStrandUptoSaid : Prop := fnExactForgetStrandUptoRow.holds Try.pinned (OpenSpec.upto fnExactForgetStrandSpec)

/-- 'laws.FnExactDoubleStrand', WHERE WHAT IT READS IS OF BULK AT MOST 1048576: true; the input reads as it did. -/
def fnExactDoubleStrandUptoRow : OpenClaim := { program := "ytjpknbjdikkleaa", sum := "b2251c9a1c9226484c22d0f14a088ea4b568efc585b1a658b04af376e8d6515d", func := "loop.example/g01205/laws.FnExactDoubleStrand", spec := "fnExactDoubleStrand", apart := false, narrowed := true }
def FnExactDoubleStrandUptoSaid : Prop := fnExactDoubleStrandUptoRow.holds Try.pinned (OpenSpec.upto fnExactDoubleStrandSpec)

/-- 'laws.FnExactMultiplyMatrices', WHERE WHAT IT READS IS OF BULK AT MOST 1048576: true; the input reads as it did. -/
def fnExactMultiplyMatricesUptoRow : OpenClaim := { program := "ytjpknbjdikkleaa", sum := "b2251c9a1c9226484c22d0f14a088ea4b568efc585b1a658b04af376e8d6515d", func := "loop.example/g01205/laws.FnExactMultiplyMatrices", spec := "fnExactMultiplyMatrices", apart := false, narrowed := true }
def FnExactMultiplyMatricesUptoSaid : Prop := fnExactMultiplyMatricesUptoRow.holds Try.pinned (OpenSpec.upto fnExactMultiplyMatricesSpec)

/-- 'laws.FnExactColourStep', WHERE WHAT IT READS IS OF BULK AT MOST 1048576: true; the input reads as it did. -/
def fnExactColourStepUptoRow : OpenClaim := { program := "ytjpknbjdikkleaa", sum := "b2251c9a1c9226484c22d0f14a088ea4b568efc585b1a658b04af376e8d6515d", func := "loop.example/g01205/laws.FnExactColourStep", spec := "fnExactColourStep", unfollowed := true, recurses := true, apart := false, narrowed := true }
def FnExactColourStepUptoSaid : Prop := fnExactColourStepUptoRow.holds Try.pinned (OpenSpec.upto fnExactColourStepSpec)

/-- 'laws.FnExactIsColouring', WHERE WHAT IT READS IS OF BULK AT MOST 1048576: true; the input reads as it did. -/
def fnExactIsColouringUptoRow : OpenClaim := { program := "ytjpknbjdikkleaa", sum := "b2251c9a1c9226484c22d0f14a088ea4b568efc585b1a658b04af376e8d6515d", func := "loop.example/g01205/laws.FnExactIsColouring", spec := "fnExactIsColouring", unfollowed := true, recurses := true, apart := false, narrowed := true }
def FnExactIsColouringUptoSaid : Prop := fnExactIsColouringUptoRow.holds Try.pinned (OpenSpec.upto fnExactIsColouringSpec)

/-- 'laws.FnExactCountColourings', WHERE WHAT IT READS IS OF BULK AT MOST 1048576: true; the input reads as it did. -/
def fnExactCountColouringsUptoRow : OpenClaim := { program := "ytjpknbjdikkleaa", sum := "b2251c9a1c9226484c22d0f14a088ea4b568efc585b1a658b04af376e8d6515d", func := "loop.example/g01205/laws.FnExactCountColourings", spec := "fnExactCountColourings", apart := false, narrowed := true }
def FnExactCountColouringsUptoSaid : Prop := fnExactCountColouringsUptoRow.holds Try.pinned (OpenSpec.upto fnExactCountColouringsSpec)

/-- 'laws.FnExactBraidOfComb', WHERE WHAT IT READS IS OF BULK AT MOST 1048576: true; the input reads as it did. -/
def fnExactBraidOfCombUptoRow : OpenClaim := { program := "ytjpknbjdikkleaa", sum := "b2251c9a1c9226484c22d0f14a088ea4b568efc585b1a658b04af376e8d6515d", func := "loop.example/g01205/laws.FnExactBraidOfComb", spec := "fnExactBraidOfComb", apart := false, narrowed := true }
def FnExactBraidOfCombUptoSaid : Prop := fnExactBraidOfCombUptoRow.holds Try.pinned (OpenSpec.upto fnExactBraidOfCombSpec)

/-- 'laws.FnExactDeterminantIn', WHERE WHAT IT READS IS OF BULK AT MOST 1048576: true; the input reads as it did. -/
def fnExactDeterminantInUptoRow : OpenClaim := { program := "ytjpknbjdikkleaa", sum := "b2251c9a1c9226484c22d0f14a088ea4b568efc585b1a658b04af376e8d6515d", func := "loop.example/g01205/laws.FnExactDeterminantIn", spec := "fnExactDeterminantIn", apart := false, narrowed := true }
def FnExactDeterminantInUptoSaid : Prop := fnExactDeterminantInUptoRow.holds Try.pinned (OpenSpec.upto fnExactDeterminantInSpec)

/-- 'laws.FnExactActOnFree', WHERE WHAT IT READS IS OF BULK AT MOST 1048576: true; the input reads as it did. -/
def fnExactActOnFreeUptoRow : OpenClaim := { program := "ytjpknbjdikkleaa", sum := "b2251c9a1c9226484c22d0f14a088ea4b568efc585b1a658b04af376e8d6515d", func := "loop.example/g01205/laws.FnExactActOnFree", spec := "fnExactActOnFree", apart := false, narrowed := true }
def FnExactActOnFreeUptoSaid : Prop := fnExactActOnFreeUptoRow.holds Try.pinned (OpenSpec.upto fnExactActOnFreeSpec)

/-- 'laws.FnExactCharacteristicOf', WHERE WHAT IT READS IS OF BULK AT MOST 1048576: true; the input reads as it did. -/
def fnExactCharacteristicOfUptoRow : OpenClaim := { program := "ytjpknbjdikkleaa", sum := "b2251c9a1c9226484c22d0f14a088ea4b568efc585b1a658b04af376e8d6515d", func := "loop.example/g01205/laws.FnExactCharacteristicOf", spec := "fnExactCharacteristicOf", apart := false, narrowed := true }
def FnExactCharacteristicOfUptoSaid : Prop := fnExactCharacteristicOfUptoRow.holds Try.pinned (OpenSpec.upto fnExactCharacteristicOfSpec)

/-- 'laws.FnExactImagesOf', WHERE WHAT IT READS IS OF BULK AT MOST 1048576: true; the input reads as it did. -/
def fnExactImagesOfUptoRow : OpenClaim := { program := "ytjpknbjdikkleaa", sum := "b2251c9a1c9226484c22d0f14a088ea4b568efc585b1a658b04af376e8d6515d", func := "loop.example/g01205/laws.FnExactImagesOf", spec := "fnExactImagesOf", apart := false, narrowed := true }
def FnExactImagesOfUptoSaid : Prop := fnExactImagesOfUptoRow.holds Try.pinned (OpenSpec.upto fnExactImagesOfSpec)

end Rows
end Go.Proofs.Ytjpknbjdikkleaa
