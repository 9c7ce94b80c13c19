/-
  No cell of these rows narrows 'for every input' (looked for: loops, veiled, ifaces, maps, wideKeys, modest, calm, conditions, laid).
  DERIVED. THE GIVEN ROWS OF THIS SEAT. 6 by the template 'for every input the law returns true; each argument reads behind the call as it read before'; 0 by the template 'total and deterministic' (their statements: YtppkpeephommhaaTotals.lean).
  GIVEN WITH THE SEED: the statements are not yours to turn. If you find one false, say at which input.
  Laid BY PROGRAM, IN A SANDBOX (cutbox-rows.mjs): the forced cells as the released guide's own fill.sh prints them over the translation 7b50447c41a947c9… (all of the seat's roots in one cut). By AI agents, Wed Nov 11 2026. No macro, syntax, notation, axiom, sorry.
-/
import Derived.Test.YtppkpeephommhaaChecked
import GoSem.Claim
import GoSem.ClaimJoined
import GoSem.ClaimMapViews
import Derived.JoinedTies
import Derived.KernelRfl
namespace Go.Proofs.Ytppkpeephommhaa
/- THE CELL 'sum', in the pinned program and in every row, IS THE sha256 OF THE DUMP (.gsa) THAT YtppkpeephommhaaProg.lean LOADS. Nothing in Lean hashes anything: it is a label: what it is worth is what the hold of that sum in a sandbox is worth. -/
noncomputable def Try.pinned : Pinned := { name := "ytppkpeephommhaa", sum := "7b50447c41a947c96cd313e4bbf5f501c5ea62c41b73005234c0543b580e37a5", checked := Try.checked }
namespace Rows
def none {H : Type} : Left H := { results := [], args := [] }

/-- 'laws.FnExactLinkingsOf': WHATEVER THE INPUT: true; the input reads as it did. -/
def fnExactLinkingsOfSpec : ChangeSpec := { name := "fnExactLinkingsOf", fn := fun _ => fun
  | [d] => { results := [.lit (.bool true)], args := [d] }
  | _ => none }
def fnExactLinkingsOfRow : OpenClaim := { program := "ytppkpeephommhaa", sum := "7b50447c41a947c96cd313e4bbf5f501c5ea62c41b73005234c0543b580e37a5", func := "loop.example/g01205/laws.FnExactLinkingsOf", spec := "fnExactLinkingsOf", unfollowed := true, recurses := true, apart := false }
def FnExactLinkingsOfSaid : Prop := fnExactLinkingsOfRow.holds Try.pinned (OpenSpec.ofChange fnExactLinkingsOfSpec)

/-- ITS FALSE NEIGHBOUR: 'it returns false'. Refute it at one input. -/
def fnExactLinkingsOfWrong : ChangeSpec := { name := "fnExactLinkingsOf", fn := fun _ => fun
  | [d] => { results := [.lit (.bool false)], args := [d] }
  | _ => none }
def FnExactLinkingsOfWrongFalsely : Prop := fnExactLinkingsOfRow.holds Try.pinned (OpenSpec.ofChange fnExactLinkingsOfWrong)

/-- 'laws.FnExactInverseMatrix': WHATEVER THE INPUT: true; the input reads as it did. -/
def fnExactInverseMatrixSpec : ChangeSpec := { name := "fnExactInverseMatrix", fn := fun _ => fun
  | [d] => { results := [.lit (.bool true)], args := [d] }
  | _ => none }
def fnExactInverseMatrixRow : OpenClaim := { program := "ytppkpeephommhaa", sum := "7b50447c41a947c96cd313e4bbf5f501c5ea62c41b73005234c0543b580e37a5", func := "loop.example/g01205/laws.FnExactInverseMatrix", spec := "fnExactInverseMatrix", apart := false }
def FnExactInverseMatrixSaid : Prop := fnExactInverseMatrixRow.holds Try.pinned (OpenSpec.ofChange fnExactInverseMatrixSpec)

/-- ITS FALSE NEIGHBOUR: 'it returns false'. Refute it at one input. -/
def fnExactInverseMatrixWrong : ChangeSpec := { name := "fnExactInverseMatrix", fn := fun _ => fun
  | [d] => { results := [.lit (.bool false)], args := [d] }
  | _ => none }
def FnExactInverseMatrixWrongFalsely : Prop := fnExactInverseMatrixRow.holds Try.pinned (OpenSpec.ofChange fnExactInverseMatrixWrong)

/-- 'laws.FnExactSameAction': WHATEVER THE INPUT: true; the input reads as it did. -/
def fnExactSameActionSpec : ChangeSpec := { name := "fnExactSameAction", fn := fun _ => fun
  | [d1, d2] => { results := [.lit (.bool true)], args := [d1, d2] }
  | _ => none }
def fnExactSameActionRow : OpenClaim := { program := "ytppkpeephommhaa", sum := "7b50447c41a947c96cd313e4bbf5f501c5ea62c41b73005234c0543b580e37a5", func := "loop.example/g01205/laws.FnExactSameAction", spec := "fnExactSameAction", unfollowed := true, recurses := true, apart := false }
def FnExactSameActionSaid : Prop := fnExactSameActionRow.holds Try.pinned (OpenSpec.ofChange fnExactSameActionSpec)

/-- ITS FALSE NEIGHBOUR: 'it returns false'. Refute it at one input. -/
def fnExactSameActionWrong : ChangeSpec := { name := "fnExactSameAction", fn := fun _ => fun
  | [d1, d2] => { results := [.lit (.bool false)], args := [d1, d2] }
  | _ => none }
def FnExactSameActionWrongFalsely : Prop := fnExactSameActionRow.holds Try.pinned (OpenSpec.ofChange fnExactSameActionWrong)

/-- 'laws.FnExactRelationsOf': WHATEVER THE INPUT: true; the input reads as it did. -/
def fnExactRelationsOfSpec : ChangeSpec := { name := "fnExactRelationsOf", fn := fun _ => fun
  | [d] => { results := [.lit (.bool true)], args := [d] }
  | _ => none }
def fnExactRelationsOfRow : OpenClaim := { program := "ytppkpeephommhaa", sum := "7b50447c41a947c96cd313e4bbf5f501c5ea62c41b73005234c0543b580e37a5", func := "loop.example/g01205/laws.FnExactRelationsOf", spec := "fnExactRelationsOf", apart := false }
def FnExactRelationsOfSaid : Prop := fnExactRelationsOfRow.holds Try.pinned (OpenSpec.ofChange fnExactRelationsOfSpec)

/-- ITS FALSE NEIGHBOUR: 'it returns false'. Refute it at one input. -/
def fnExactRelationsOfWrong : ChangeSpec := { name := "fnExactRelationsOf", fn := fun _ => fun
  | [d] => { results := [.lit (.bool false)], args := [d] }
  | _ => none }
def FnExactRelationsOfWrongFalsely : Prop := fnExactRelationsOfRow.holds Try.pinned (OpenSpec.ofChange fnExactRelationsOfWrong)

/-- 'laws.FnExactCombOf': WHATEVER THE INPUT: true; the input reads as it did. -/
def fnExactCombOfSpec : ChangeSpec := { name := "fnExactCombOf", fn := fun _ => fun
  | [d] => { results := [.lit (.bool true)], args := [d] }
  | _ => none }
def fnExactCombOfRow : OpenClaim := { program := "ytppkpeephommhaa", sum := "7b50447c41a947c96cd313e4bbf5f501c5ea62c41b73005234c0543b580e37a5", func := "loop.example/g01205/laws.FnExactCombOf", spec := "fnExactCombOf", unfollowed := true, recurses := true, apart := false }
def FnExactCombOfSaid : Prop := fnExactCombOfRow.holds Try.pinned (OpenSpec.ofChange fnExactCombOfSpec)

/-- ITS FALSE NEIGHBOUR: 'it returns false'. Refute it at one input. -/
def fnExactCombOfWrong : ChangeSpec := { name := "fnExactCombOf", fn := fun _ => fun
  | [d] => { results := [.lit (.bool false)], args := [d] }
  | _ => none }
def FnExactCombOfWrongFalsely : Prop := fnExactCombOfRow.holds Try.pinned (OpenSpec.ofChange fnExactCombOfWrong)

/-- 'laws.FnExactIsBrunnian': WHATEVER THE INPUT: true; the input reads as it did. -/
def fnExactIsBrunnianSpec : ChangeSpec := { name := "fnExactIsBrunnian", fn := fun _ => fun
  | [d] => { results := [.lit (.bool true)], args := [d] }
  | _ => none }
def fnExactIsBrunnianRow : OpenClaim := { program := "ytppkpeephommhaa", sum := "7b50447c41a947c96cd313e4bbf5f501c5ea62c41b73005234c0543b580e37a5", func := "loop.example/g01205/laws.FnExactIsBrunnian", spec := "fnExactIsBrunnian", unfollowed := true, recurses := true, apart := false }
def FnExactIsBrunnianSaid : Prop := fnExactIsBrunnianRow.holds Try.pinned (OpenSpec.ofChange fnExactIsBrunnianSpec)

/-- ITS FALSE NEIGHBOUR: 'it returns false'. Refute it at one input. -/
def fnExactIsBrunnianWrong : ChangeSpec := { name := "fnExactIsBrunnian", fn := fun _ => fun
  | [d] => { results := [.lit (.bool false)], args := [d] }
  | _ => none }
def FnExactIsBrunnianWrongFalsely : Prop := fnExactIsBrunnianRow.holds Try.pinned (OpenSpec.ofChange fnExactIsBrunnianWrong)

/- THE SECOND FORM. 'bulk': how many values and letters a reading holds, each counted each time it is reached (what is shared counts as often as it is met; a slice's spare places count too). A statement '..UptoSaid' is the law's where the arguments, and the package variables that the reading takes, are together of bulk at most 1048576: NARROWER than '..Said'. Prove '..Said' where nothing that the law and all that it calls make is longer than what came in: it says more and counts as full. Else prove '..UptoSaid'. A law counts once. -/
mutual
def uptoBulk {H : Type} : DataW H → Nat
  | .lit (.string bytes) => bytes.length + 1
  | .lit _ => 1
  | .nil => 1
  | .ptr d => uptoBulk d + 1
  | .slice elems spare => uptoBulkAll elems + uptoBulkAll spare + 1
  | .agg parts => uptoBulkAll parts + 1
  | .iface _ d => uptoBulk d + 1
  | .map entries => uptoBulkEntries entries + 1
  | .held _ => 1
def uptoBulkAll {H : Type} : List (DataW H) → Nat
  | [] => 0
  | d :: r => uptoBulk d + uptoBulkAll r
def uptoBulkEntries {H : Type} : List (Lit × DataW H) → Nat
  | [] => 0
  | x :: r => uptoBulkEntry x + uptoBulkEntries r
def uptoBulkEntry {H : Type} : Lit × DataW H → Nat
  | (.string bytes, d) => bytes.length + uptoBulk d + 1
  | (_, d) => uptoBulk d + 1
 end
def uptoSmall : (H : Type) → List (DataW H) → Bool := fun _ ds => decide (uptoBulkAll ds ≤ 1048576)
def OpenSpec.upto (s : _root_.Go.ChangeSpec) : _root_.Go.OpenSpec := { _root_.Go.OpenSpec.ofChange s with cond := some uptoSmall }

/-- 'laws.FnExactLinkingsOf', WHERE WHAT IT READS IS OF BULK AT MOST 1048576: true; the input reads as it did. -/
def fnExactLinkingsOfUptoRow : OpenClaim := { program := "ytppkpeephommhaa", sum := "7b50447c41a947c96cd313e4bbf5f501c5ea62c41b73005234c0543b580e37a5", func := "loop.example/g01205/laws.FnExactLinkingsOf", spec := "fnExactLinkingsOf", unfollowed := true, recurses := true, apart := false, narrowed := true }
def FnExactLinkingsOfUptoSaid : Prop := fnExactLinkingsOfUptoRow.holds Try.pinned (OpenSpec.upto fnExactLinkingsOfSpec)

/-- 'laws.FnExactInverseMatrix', WHERE WHAT IT READS IS OF BULK AT MOST 1048576: true; the input reads as it did. -/
def fnExactInverseMatrixUptoRow : OpenClaim := { program := "ytppkpeephommhaa", sum := "7b50447c41a947c96cd313e4bbf5f501c5ea62c41b73005234c0543b580e37a5", func := "loop.example/g01205/laws.FnExactInverseMatrix", spec := "fnExactInverseMatrix", apart := false, narrowed := true }
def FnExactInverseMatrixUptoSaid : Prop := fnExactInverseMatrixUptoRow.holds Try.pinned (OpenSpec.upto fnExactInverseMatrixSpec)

/-- 'laws.FnExactSameAction', WHERE WHAT IT READS IS OF BULK AT MOST 1048576: true; the input reads as it did. -/
def fnExactSameActionUptoRow : OpenClaim := { program := "ytppkpeephommhaa", sum := "7b50447c41a947c96cd313e4bbf5f501c5ea62c41b73005234c0543b580e37a5", func := "loop.example/g01205/laws.FnExactSameAction", spec := "fnExactSameAction", unfollowed := true, recurses := true, apart := false, narrowed := true }
def FnExactSameActionUptoSaid : Prop := fnExactSameActionUptoRow.holds Try.pinned (OpenSpec.upto fnExactSameActionSpec)

/-- 'laws.FnExactRelationsOf', WHERE WHAT IT READS IS OF BULK AT MOST 1048576: true; the input reads as it did. -/
def fnExactRelationsOfUptoRow : OpenClaim := { program := "ytppkpeephommhaa", sum := "7b50447c41a947c96cd313e4bbf5f501c5ea62c41b73005234c0543b580e37a5", func := "loop.example/g01205/laws.FnExactRelationsOf", spec := "fnExactRelationsOf", apart := false, narrowed := true }
def FnExactRelationsOfUptoSaid : Prop := fnExactRelationsOfUptoRow.holds Try.pinned (OpenSpec.upto fnExactRelationsOfSpec)

/-- 'laws.FnExactCombOf', WHERE WHAT IT READS IS OF BULK AT MOST 1048576: true; the input reads as it did. -/
def fnExactCombOfUptoRow : OpenClaim := { program := "ytppkpeephommhaa", sum := "7b50447c41a947c96cd313e4bbf5f501c5ea62c41b73005234c0543b580e37a5", func := "loop.example/g01205/laws.FnExactCombOf", spec := "fnExactCombOf", unfollowed := true, recurses := true, apart := false, narrowed := true }
def FnExactCombOfUptoSaid : Prop := fnExactCombOfUptoRow.holds Try.pinned (OpenSpec.upto fnExactCombOfSpec)

/-- 'laws.FnExactIsBrunnian', WHERE WHAT IT READS IS OF BULK AT MOST 1048576: true; the input reads as it did. -/
def fnExactIsBrunnianUptoRow : OpenClaim := { program := "ytppkpeephommhaa", sum := "7b50447c41a947c96cd313e4bbf5f501c5ea62c41b73005234c0543b580e37a5", func := "loop.example/g01205/laws.FnExactIsBrunnian", spec := "fnExactIsBrunnian", unfollowed := true, recurses := true, apart := false, narrowed := true }
def FnExactIsBrunnianUptoSaid : Prop := fnExactIsBrunnianUptoRow.holds Try.pinned (OpenSpec.upto fnExactIsBrunnianSpec)

end Rows
end Go.Proofs.Ytppkpeephommhaa
