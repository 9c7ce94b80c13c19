/-
  No cell of these rows narrows 'for every input' (looked for: loops, veiled, ifaces, maps, wideKeys, modest, calm, conditions, laid).
  DERIVED. THE GIVEN ROWS OF THIS SEAT. 10 by the template 'for every input the law returns true; each argument reads behind the call as it read before'; 0 by the template 'total and deterministic' (their statements: YtcbomfkimohlfaaTotals.lean).
  GIVEN WITH THE SEED: the statements are not yours to turn. If you find one false, say at which input.
  Laid BY PROGRAM, IN A SANDBOX (cutbox-rows.mjs): the forced cells as the released guide's own fill.sh prints them over the translation eca8b66075de4d98… (all of the seat's roots in one cut). By AI agents, Wed Nov 11 2026. No macro, syntax, notation, axiom, sorry.
-/
import Derived.Test.YtcbomfkimohlfaaChecked
import GoSem.Claim
import GoSem.ClaimJoined
import GoSem.ClaimMapViews
import Derived.JoinedTies
import Derived.KernelRfl
namespace Go.Proofs.Ytcbomfkimohlfaa
/- THE CELL 'sum', in the pinned program and in every row, IS THE sha256 OF THE DUMP (.gsa) THAT YtcbomfkimohlfaaProg.lean LOADS. Nothing in Lean hashes anything: it is a label: what it is worth is what the hold of that sum in a sandbox is worth. -/
noncomputable def Try.pinned : Pinned := { name := "ytcbomfkimohlfaa", sum := "eca8b66075de4d98e5bc7e9f9f76fe0c26763c5ff1c882324ba90cc595cf4b5b", checked := Try.checked }
namespace Rows
def none {H : Type} : Left H := { results := [], args := [] }

/-- 'laws.FnExactDoubleStrand': WHATEVER THE INPUT: true; the input reads as it did. -/
def fnExactDoubleStrandSpec : ChangeSpec := { name := "fnExactDoubleStrand", fn := fun _ => fun
  | [d1, d2] => { results := [.lit (.bool true)], args := [d1, d2] }
  | _ => none }
def fnExactDoubleStrandRow : OpenClaim := { program := "ytcbomfkimohlfaa", sum := "eca8b66075de4d98e5bc7e9f9f76fe0c26763c5ff1c882324ba90cc595cf4b5b", func := "loop.example/g01205/laws.FnExactDoubleStrand", spec := "fnExactDoubleStrand", apart := false }
def FnExactDoubleStrandSaid : Prop := fnExactDoubleStrandRow.holds Try.pinned (OpenSpec.ofChange fnExactDoubleStrandSpec)

/-- ITS FALSE NEIGHBOUR: 'it returns false'. Refute it at one input. -/
def fnExactDoubleStrandWrong : ChangeSpec := { name := "fnExactDoubleStrand", fn := fun _ => fun
  | [d1, d2] => { results := [.lit (.bool false)], args := [d1, d2] }
  | _ => none }
def FnExactDoubleStrandWrongFalsely : Prop := fnExactDoubleStrandRow.holds Try.pinned (OpenSpec.ofChange fnExactDoubleStrandWrong)

/-- 'laws.FnExactCountColourings': WHATEVER THE INPUT: true; the input reads as it did. -/
def fnExactCountColouringsSpec : ChangeSpec := { name := "fnExactCountColourings", fn := fun _ => fun
  | [d1, d2] => { results := [.lit (.bool true)], args := [d1, d2] }
  | _ => none }
def fnExactCountColouringsRow : OpenClaim := { program := "ytcbomfkimohlfaa", sum := "eca8b66075de4d98e5bc7e9f9f76fe0c26763c5ff1c882324ba90cc595cf4b5b", func := "loop.example/g01205/laws.FnExactCountColourings", spec := "fnExactCountColourings", apart := false }
def FnExactCountColouringsSaid : Prop := fnExactCountColouringsRow.holds Try.pinned (OpenSpec.ofChange fnExactCountColouringsSpec)

/-- ITS FALSE NEIGHBOUR: 'it returns false'. Refute it at one input. -/
def fnExactCountColouringsWrong : ChangeSpec := { name := "fnExactCountColourings", fn := fun _ => fun
  | [d1, d2] => { results := [.lit (.bool false)], args := [d1, d2] }
  | _ => none }
def FnExactCountColouringsWrongFalsely : Prop := fnExactCountColouringsRow.holds Try.pinned (OpenSpec.ofChange fnExactCountColouringsWrong)

/-- 'laws.FnExactDeterminantIn': WHATEVER THE INPUT: true; the input reads as it did. -/
def fnExactDeterminantInSpec : ChangeSpec := { name := "fnExactDeterminantIn", fn := fun _ => fun
  | [d] => { results := [.lit (.bool true)], args := [d] }
  | _ => none }
def fnExactDeterminantInRow : OpenClaim := { program := "ytcbomfkimohlfaa", sum := "eca8b66075de4d98e5bc7e9f9f76fe0c26763c5ff1c882324ba90cc595cf4b5b", func := "loop.example/g01205/laws.FnExactDeterminantIn", spec := "fnExactDeterminantIn", apart := false }
def FnExactDeterminantInSaid : Prop := fnExactDeterminantInRow.holds Try.pinned (OpenSpec.ofChange fnExactDeterminantInSpec)

/-- ITS FALSE NEIGHBOUR: 'it returns false'. Refute it at one input. -/
def fnExactDeterminantInWrong : ChangeSpec := { name := "fnExactDeterminantIn", fn := fun _ => fun
  | [d] => { results := [.lit (.bool false)], args := [d] }
  | _ => none }
def FnExactDeterminantInWrongFalsely : Prop := fnExactDeterminantInRow.holds Try.pinned (OpenSpec.ofChange fnExactDeterminantInWrong)

/-- 'laws.FnExactLinkingsOf': WHATEVER THE INPUT: true; the input reads as it did. -/
def fnExactLinkingsOfSpec : ChangeSpec := { name := "fnExactLinkingsOf", fn := fun _ => fun
  | [d] => { results := [.lit (.bool true)], args := [d] }
  | _ => none }
def fnExactLinkingsOfRow : OpenClaim := { program := "ytcbomfkimohlfaa", sum := "eca8b66075de4d98e5bc7e9f9f76fe0c26763c5ff1c882324ba90cc595cf4b5b", func := "loop.example/g01205/laws.FnExactLinkingsOf", spec := "fnExactLinkingsOf", unfollowed := true, recurses := true, apart := false }
def FnExactLinkingsOfSaid : Prop := fnExactLinkingsOfRow.holds Try.pinned (OpenSpec.ofChange fnExactLinkingsOfSpec)

/-- ITS FALSE NEIGHBOUR: 'it returns false'. Refute it at one input. -/
def fnExactLinkingsOfWrong : ChangeSpec := { name := "fnExactLinkingsOf", fn := fun _ => fun
  | [d] => { results := [.lit (.bool false)], args := [d] }
  | _ => none }
def FnExactLinkingsOfWrongFalsely : Prop := fnExactLinkingsOfRow.holds Try.pinned (OpenSpec.ofChange fnExactLinkingsOfWrong)

/-- 'laws.FnExactInverseMatrix': WHATEVER THE INPUT: true; the input reads as it did. -/
def fnExactInverseMatrixSpec : ChangeSpec := { name := "fnExactInverseMatrix", fn := fun _ => fun
  | [d] => { results := [.lit (.bool true)], args := [d] }
  | _ => none }
def fnExactInverseMatrixRow : OpenClaim := { program := "ytcbomfkimohlfaa", sum := "eca8b66075de4d98e5bc7e9f9f76fe0c26763c5ff1c882324ba90cc595cf4b5b", func := "loop.example/g01205/laws.FnExactInverseMatrix", spec := "fnExactInverseMatrix", apart := false }
def FnExactInverseMatrixSaid : Prop := fnExactInverseMatrixRow.holds Try.pinned (OpenSpec.ofChange fnExactInverseMatrixSpec)

/-- ITS FALSE NEIGHBOUR: 'it returns false'. Refute it at one input. -/
def fnExactInverseMatrixWrong : ChangeSpec := { name := "fnExactInverseMatrix", fn := fun _ => fun
  | [d] => { results := [.lit (.bool false)], args := [d] }
  | _ => none }
def FnExactInverseMatrixWrongFalsely : Prop := fnExactInverseMatrixRow.holds Try.pinned (OpenSpec.ofChange fnExactInverseMatrixWrong)

/-- 'laws.FnExactExpansionOf': WHATEVER THE INPUT: true; the input reads as it did. -/
def fnExactExpansionOfSpec : ChangeSpec := { name := "fnExactExpansionOf", fn := fun _ => fun
  | [d1, d2] => { results := [.lit (.bool true)], args := [d1, d2] }
  | _ => none }
def fnExactExpansionOfRow : OpenClaim := { program := "ytcbomfkimohlfaa", sum := "eca8b66075de4d98e5bc7e9f9f76fe0c26763c5ff1c882324ba90cc595cf4b5b", func := "loop.example/g01205/laws.FnExactExpansionOf", spec := "fnExactExpansionOf", unfollowed := true, recurses := true, apart := false }
def FnExactExpansionOfSaid : Prop := fnExactExpansionOfRow.holds Try.pinned (OpenSpec.ofChange fnExactExpansionOfSpec)

/-- ITS FALSE NEIGHBOUR: 'it returns false'. Refute it at one input. -/
def fnExactExpansionOfWrong : ChangeSpec := { name := "fnExactExpansionOf", fn := fun _ => fun
  | [d1, d2] => { results := [.lit (.bool false)], args := [d1, d2] }
  | _ => none }
def FnExactExpansionOfWrongFalsely : Prop := fnExactExpansionOfRow.holds Try.pinned (OpenSpec.ofChange fnExactExpansionOfWrong)

/-- 'laws.FnExactPlatComponents': WHATEVER THE INPUT: true; the input reads as it did. -/
def fnExactPlatComponentsSpec : ChangeSpec := { name := "fnExactPlatComponents", fn := fun _ => fun
  | [d] => { results := [.lit (.bool true)], args := [d] }
  | _ => none }
def fnExactPlatComponentsRow : OpenClaim := { program := "ytcbomfkimohlfaa", sum := "eca8b66075de4d98e5bc7e9f9f76fe0c26763c5ff1c882324ba90cc595cf4b5b", func := "loop.example/g01205/laws.FnExactPlatComponents", spec := "fnExactPlatComponents", unfollowed := true, recurses := true, apart := false }
def FnExactPlatComponentsSaid : Prop := fnExactPlatComponentsRow.holds Try.pinned (OpenSpec.ofChange fnExactPlatComponentsSpec)

/-- ITS FALSE NEIGHBOUR: 'it returns false'. Refute it at one input. -/
def fnExactPlatComponentsWrong : ChangeSpec := { name := "fnExactPlatComponents", fn := fun _ => fun
  | [d] => { results := [.lit (.bool false)], args := [d] }
  | _ => none }
def FnExactPlatComponentsWrongFalsely : Prop := fnExactPlatComponentsRow.holds Try.pinned (OpenSpec.ofChange fnExactPlatComponentsWrong)

/-- 'laws.FnExactSeifertGenus': WHATEVER THE INPUT: true; the input reads as it did. -/
def fnExactSeifertGenusSpec : ChangeSpec := { name := "fnExactSeifertGenus", fn := fun _ => fun
  | [d] => { results := [.lit (.bool true)], args := [d] }
  | _ => none }
def fnExactSeifertGenusRow : OpenClaim := { program := "ytcbomfkimohlfaa", sum := "eca8b66075de4d98e5bc7e9f9f76fe0c26763c5ff1c882324ba90cc595cf4b5b", func := "loop.example/g01205/laws.FnExactSeifertGenus", spec := "fnExactSeifertGenus", unfollowed := true, recurses := true, apart := false }
def FnExactSeifertGenusSaid : Prop := fnExactSeifertGenusRow.holds Try.pinned (OpenSpec.ofChange fnExactSeifertGenusSpec)

/-- ITS FALSE NEIGHBOUR: 'it returns false'. Refute it at one input. -/
def fnExactSeifertGenusWrong : ChangeSpec := { name := "fnExactSeifertGenus", fn := fun _ => fun
  | [d] => { results := [.lit (.bool false)], args := [d] }
  | _ => none }
def FnExactSeifertGenusWrongFalsely : Prop := fnExactSeifertGenusRow.holds Try.pinned (OpenSpec.ofChange fnExactSeifertGenusWrong)

/-- 'laws.FnExactComponentsOf': WHATEVER THE INPUT: true; the input reads as it did. -/
def fnExactComponentsOfSpec : ChangeSpec := { name := "fnExactComponentsOf", fn := fun _ => fun
  | [d] => { results := [.lit (.bool true)], args := [d] }
  | _ => none }
def fnExactComponentsOfRow : OpenClaim := { program := "ytcbomfkimohlfaa", sum := "eca8b66075de4d98e5bc7e9f9f76fe0c26763c5ff1c882324ba90cc595cf4b5b", func := "loop.example/g01205/laws.FnExactComponentsOf", spec := "fnExactComponentsOf", unfollowed := true, recurses := true, apart := false }
def FnExactComponentsOfSaid : Prop := fnExactComponentsOfRow.holds Try.pinned (OpenSpec.ofChange fnExactComponentsOfSpec)

/-- ITS FALSE NEIGHBOUR: 'it returns false'. Refute it at one input. -/
def fnExactComponentsOfWrong : ChangeSpec := { name := "fnExactComponentsOf", fn := fun _ => fun
  | [d] => { results := [.lit (.bool false)], args := [d] }
  | _ => none }
def FnExactComponentsOfWrongFalsely : Prop := fnExactComponentsOfRow.holds Try.pinned (OpenSpec.ofChange fnExactComponentsOfWrong)

/-- 'laws.FnExactComponentLinkings': WHATEVER THE INPUT: true; the input reads as it did. -/
def fnExactComponentLinkingsSpec : ChangeSpec := { name := "fnExactComponentLinkings", fn := fun _ => fun
  | [d] => { results := [.lit (.bool true)], args := [d] }
  | _ => none }
def fnExactComponentLinkingsRow : OpenClaim := { program := "ytcbomfkimohlfaa", sum := "eca8b66075de4d98e5bc7e9f9f76fe0c26763c5ff1c882324ba90cc595cf4b5b", func := "loop.example/g01205/laws.FnExactComponentLinkings", spec := "fnExactComponentLinkings", unfollowed := true, recurses := true, apart := false }
def FnExactComponentLinkingsSaid : Prop := fnExactComponentLinkingsRow.holds Try.pinned (OpenSpec.ofChange fnExactComponentLinkingsSpec)

/-- ITS FALSE NEIGHBOUR: 'it returns false'. Refute it at one input. -/
def fnExactComponentLinkingsWrong : ChangeSpec := { name := "fnExactComponentLinkings", fn := fun _ => fun
  | [d] => { results := [.lit (.bool false)], args := [d] }
  | _ => none }
def FnExactComponentLinkingsWrongFalsely : Prop := fnExactComponentLinkingsRow.holds Try.pinned (OpenSpec.ofChange fnExactComponentLinkingsWrong)

/- THE SECOND FORM. 'bulk': how many values and letters a reading holds, each counted each time it is reached (what is shared counts as often as it is met; a slice's spare places count too). A statement '..UptoSaid' is the law's where the arguments, and the package variables that the reading takes, are together of bulk at most 1048576: NARROWER than '..Said'. Prove '..Said' where nothing that the law and all that it calls make is longer than what came in: it says more and counts as full. Else prove '..UptoSaid'. A law counts once. -/
mutual
def uptoBulk {H : Type} : DataW H → Nat
  | .lit (.string bytes) => bytes.length + 1
  | .lit _ => 1
  | .nil => 1
  | .ptr d => uptoBulk d + 1
  | .slice elems spare => uptoBulkAll elems + uptoBulkAll spare + 1
  | .agg parts => uptoBulkAll parts + 1
  | .iface _ d => uptoBulk d + 1
  | .map entries => uptoBulkEntries entries + 1
  | .held _ => 1
def uptoBulkAll {H : Type} : List (DataW H) → Nat
  | [] => 0
  | d :: r => uptoBulk d + uptoBulkAll r
def uptoBulkEntries {H : Type} : List (Lit × DataW H) → Nat
  | [] => 0
  | x :: r => uptoBulkEntry x + uptoBulkEntries r
def uptoBulkEntry {H : Type} : Lit × DataW H → Nat
  | (.string bytes, d) => bytes.length + uptoBulk d + 1
  | (_, d) => uptoBulk d + 1
 end
def uptoSmall : (H : Type) → List (DataW H) → Bool := fun _ ds => decide (uptoBulkAll ds ≤ 1048576)
def OpenSpec.upto (s : _root_.Go.ChangeSpec) : _root_.Go.OpenSpec := { _root_.Go.OpenSpec.ofChange s with cond := some uptoSmall }

/-- 'laws.FnExactDoubleStrand', WHERE WHAT IT READS IS OF BULK AT MOST 1048576: true; the input reads as it did. -/
def fnExactDoubleStrandUptoRow : OpenClaim := { program := "ytcbomfkimohlfaa", sum := "eca8b66075de4d98e5bc7e9f9f76fe0c26763c5ff1c882324ba90cc595cf4b5b", func := "loop.example/g01205/laws.FnExactDoubleStrand", spec := "fnExactDoubleStrand", apart := false, narrowed := true }
def FnExactDoubleStrandUptoSaid : Prop := fnExactDoubleStrandUptoRow.holds Try.pinned (OpenSpec.upto fnExactDoubleStrandSpec)

/-- 'laws.FnExactCountColourings', WHERE WHAT IT READS IS OF BULK AT MOST 1048576: true; the input reads as it did. -/
def fnExactCountColouringsUptoRow : OpenClaim := { program := "ytcbomfkimohlfaa", sum := "eca8b66075de4d98e5bc7e9f9f76fe0c26763c5ff1c882324ba90cc595cf4b5b", func := "loop.example/g01205/laws.FnExactCountColourings", spec := "fnExactCountColourings", apart := false, narrowed := true }
def FnExactCountColouringsUptoSaid : Prop := fnExactCountColouringsUptoRow.holds Try.pinned (OpenSpec.upto fnExactCountColouringsSpec)

/-- 'laws.FnExactDeterminantIn', WHERE WHAT IT READS IS OF BULK AT MOST 1048576: true; the input reads as it did. -/
def fnExactDeterminantInUptoRow : OpenClaim := { program := "ytcbomfkimohlfaa", sum := "eca8b66075de4d98e5bc7e9f9f76fe0c26763c5ff1c882324ba90cc595cf4b5b", func := "loop.example/g01205/laws.FnExactDeterminantIn", spec := "fnExactDeterminantIn", apart := false, narrowed := true }
def FnExactDeterminantInUptoSaid : Prop := fnExactDeterminantInUptoRow.holds Try.pinned (OpenSpec.upto fnExactDeterminantInSpec)

/-- 'laws.FnExactLinkingsOf', WHERE WHAT IT READS IS OF BULK AT MOST 1048576: true; the input reads as it did. -/
def fnExactLinkingsOfUptoRow : OpenClaim := { program := "ytcbomfkimohlfaa", sum := "eca8b66075de4d98e5bc7e9f9f76fe0c26763c5ff1c882324ba90cc595cf4b5b", func := "loop.example/g01205/laws.FnExactLinkingsOf", spec := "fnExactLinkingsOf", unfollowed := true, recurses := true, apart := false, narrowed := true }
def FnExactLinkingsOfUptoSaid : Prop := fnExactLinkingsOfUptoRow.holds Try.pinned (OpenSpec.upto fnExactLinkingsOfSpec)

/-- 'laws.FnExactInverseMatrix', WHERE WHAT IT READS IS OF BULK AT MOST 1048576: true; the input reads as it did. -/
def fnExactInverseMatrixUptoRow : OpenClaim := { program := "ytcbomfkimohlfaa", sum := "eca8b66075de4d98e5bc7e9f9f76fe0c26763c5ff1c882324ba90cc595cf4b5b", func := "loop.example/g01205/laws.FnExactInverseMatrix", spec := "fnExactInverseMatrix", apart := false, narrowed := true }
def FnExactInverseMatrixUptoSaid : Prop := fnExactInverseMatrixUptoRow.holds Try.pinned (OpenSpec.upto fnExactInverseMatrixSpec)

/-- 'laws.FnExactExpansionOf', WHERE WHAT IT READS IS OF BULK AT MOST 1048576: true; the input reads as it did. -/
def fnExactExpansionOfUptoRow : OpenClaim := { program := "ytcbomfkimohlfaa", sum := "eca8b66075de4d98e5bc7e9f9f76fe0c26763c5ff1c882324ba90cc595cf4b5b", func := "loop.example/g01205/laws.FnExactExpansionOf", spec := "fnExactExpansionOf", unfollowed := true, recurses := true, apart := false, narrowed := true }
def FnExactExpansionOfUptoSaid : Prop := fnExactExpansionOfUptoRow.holds Try.pinned (OpenSpec.upto fnExactExpansionOfSpec)

/-- 'laws.FnExactPlatComponents', WHERE WHAT IT READS IS OF BULK AT MOST 1048576: true; the input reads as it did. -/
def fnExactPlatComponentsUptoRow : OpenClaim := { program := "ytcbomfkimohlfaa", sum := "eca8b66075de4d98e5bc7e9f9f76fe0c26763c5ff1c882324ba90cc595cf4b5b", func := "loop.example/g01205/laws.FnExactPlatComponents", spec := "fnExactPlatComponents", unfollowed := true, recurses := true, apart := false, narrowed := true }
def FnExactPlatComponentsUptoSaid : Prop := fnExactPlatComponentsUptoRow.holds Try.pinned (OpenSpec.upto fnExactPlatComponentsSpec)

/-- 'laws.FnExactSeifertGenus', WHERE WHAT IT READS IS OF BULK AT MOST 1048576: true; the input reads as it did. -/
def fnExactSeifertGenusUptoRow : OpenClaim := { program := "ytcbomfkimohlfaa", sum := "eca8b66075de4d98e5bc7e9f9f76fe0c26763c5ff1c882324ba90cc595cf4b5b", func := "loop.example/g01205/laws.FnExactSeifertGenus", spec := "fnExactSeifertGenus", unfollowed := true, recurses := true, apart := false, narrowed := true }
def FnExactSeifertGenusUptoSaid : Prop := fnExactSeifertGenusUptoRow.holds Try.pinned (OpenSpec.upto fnExactSeifertGenusSpec)

/-- 'laws.FnExactComponentsOf', WHERE WHAT IT READS IS OF BULK AT MOST 1048576: true; the input reads as it did. -/
def fnExactComponentsOfUptoRow : OpenClaim := { program := "ytcbomfkimohlfaa", sum := "eca8b66075de4d98e5bc7e9f9f76fe0c26763c5ff1c882324ba90cc595cf4b5b", func := "loop.example/g01205/laws.FnExactComponentsOf", spec := "fnExactComponentsOf", unfollowed := true, recurses := true, apart := false, narrowed := true }
def FnExactComponentsOfUptoSaid : Prop := fnExactComponentsOfUptoRow.holds Try.pinned (OpenSpec.upto fnExactComponentsOfSpec)

/-- 'laws.FnExactComponentLinkings', WHERE WHAT IT READS IS OF BULK AT MOST 1048576: true; the input reads as it did. -/
def fnExactComponentLinkingsUptoRow : OpenClaim := { program := "ytcbomfkimohlfaa", sum := "eca8b66075de4d98e5bc7e9f9f76fe0c26763c5ff1c882324ba90cc595cf4b5b", func := "loop.example/g01205/laws.FnExactComponentLinkings", spec := "fnExactComponentLinkings", unfollowed := true, recurses := true, apart := false, narrowed := true }
def FnExactComponentLinkingsUptoSaid : Prop := fnExactComponentLinkingsUptoRow.holds Try.pinned (OpenSpec.upto fnExactComponentLinkingsSpec)

end Rows
end Go.Proofs.Ytcbomfkimohlfaa
