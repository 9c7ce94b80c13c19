/-
  No cell of these rows narrows 'for every input' (looked for: loops, veiled, ifaces, maps, wideKeys, modest, calm, conditions, laid).
  DERIVED. THE GIVEN ROWS OF THIS SEAT. 3 by the template 'for every input the law returns true; each argument reads behind the call as it read before'; 0 by the template 'total and deterministic' (their statements: YtifmdgffimckgaaTotals.lean).
  GIVEN WITH THE SEED: the statements are not yours to turn. If you find one false, say at which input.
  Laid BY PROGRAM, IN A SANDBOX (cutbox-rows.mjs): the forced cells as the released guide's own fill.sh prints them over the translation 6a61db655530e8b6… (all of the seat's roots in one cut). By AI agents, Wed Nov 11 2026. No macro, syntax, notation, axiom, sorry.
-/
import Derived.Test.YtifmdgffimckgaaChecked
import GoSem.Claim
import GoSem.ClaimJoined
import GoSem.ClaimMapViews
import Derived.JoinedTies
import Derived.KernelRfl
namespace Go.Proofs.Ytifmdgffimckgaa
/- THE CELL 'sum', in the pinned program and in every row, IS THE sha256 OF THE DUMP (.gsa) THAT YtifmdgffimckgaaProg.lean LOADS. Nothing in Lean hashes anything: it is a label: what it is worth is what the hold of that sum in a sandbox is worth. -/
noncomputable def Try.pinned : Pinned := { name := "ytifmdgffimckgaa", sum := "6a61db655530e8b65ca9ab8347c6ef4c29c4837979e858f269cfa4a4f5780e57", checked := Try.checked }
namespace Rows
def none {H : Type} : Left H := { results := [], args := [] }

/-- 'laws.FnExactBurauModulo': WHATEVER THE INPUT: true; the input reads as it did. -/
def fnExactBurauModuloSpec : ChangeSpec := { name := "fnExactBurauModulo", fn := fun _ => fun
  | [d1, d2] => { results := [.lit (.bool true)], args := [d1, d2] }
  | _ => none }
def fnExactBurauModuloRow : OpenClaim := { program := "ytifmdgffimckgaa", sum := "6a61db655530e8b65ca9ab8347c6ef4c29c4837979e858f269cfa4a4f5780e57", func := "loop.example/g01205/laws.FnExactBurauModulo", spec := "fnExactBurauModulo", unfollowed := true, recurses := true, plainKeys := false, apart := false }
def FnExactBurauModuloSaid : Prop := fnExactBurauModuloRow.holds Try.pinned (OpenSpec.ofChange fnExactBurauModuloSpec)

/-- ITS FALSE NEIGHBOUR: 'it returns false'. Refute it at one input. -/
def fnExactBurauModuloWrong : ChangeSpec := { name := "fnExactBurauModulo", fn := fun _ => fun
  | [d1, d2] => { results := [.lit (.bool false)], args := [d1, d2] }
  | _ => none }
def FnExactBurauModuloWrongFalsely : Prop := fnExactBurauModuloRow.holds Try.pinned (OpenSpec.ofChange fnExactBurauModuloWrong)

/-- 'laws.FnExactKrammerTrace': WHATEVER THE INPUT: true; the input reads as it did. -/
def fnExactKrammerTraceSpec : ChangeSpec := { name := "fnExactKrammerTrace", fn := fun _ => fun
  | [d1, d2, d3] => { results := [.lit (.bool true)], args := [d1, d2, d3] }
  | _ => none }
def fnExactKrammerTraceRow : OpenClaim := { program := "ytifmdgffimckgaa", sum := "6a61db655530e8b65ca9ab8347c6ef4c29c4837979e858f269cfa4a4f5780e57", func := "loop.example/g01205/laws.FnExactKrammerTrace", spec := "fnExactKrammerTrace", unfollowed := true, recurses := true, plainKeys := false, apart := false }
def FnExactKrammerTraceSaid : Prop := fnExactKrammerTraceRow.holds Try.pinned (OpenSpec.ofChange fnExactKrammerTraceSpec)

/-- ITS FALSE NEIGHBOUR: 'it returns false'. Refute it at one input. -/
def fnExactKrammerTraceWrong : ChangeSpec := { name := "fnExactKrammerTrace", fn := fun _ => fun
  | [d1, d2, d3] => { results := [.lit (.bool false)], args := [d1, d2, d3] }
  | _ => none }
def FnExactKrammerTraceWrongFalsely : Prop := fnExactKrammerTraceRow.holds Try.pinned (OpenSpec.ofChange fnExactKrammerTraceWrong)

/-- 'laws.FnExactKrammerMatrix': WHATEVER THE INPUT: true; the input reads as it did. -/
def fnExactKrammerMatrixSpec : ChangeSpec := { name := "fnExactKrammerMatrix", fn := fun _ => fun
  | [d1, d2, d3] => { results := [.lit (.bool true)], args := [d1, d2, d3] }
  | _ => none }
def fnExactKrammerMatrixRow : OpenClaim := { program := "ytifmdgffimckgaa", sum := "6a61db655530e8b65ca9ab8347c6ef4c29c4837979e858f269cfa4a4f5780e57", func := "loop.example/g01205/laws.FnExactKrammerMatrix", spec := "fnExactKrammerMatrix", unfollowed := true, recurses := true, plainKeys := false, apart := false }
def FnExactKrammerMatrixSaid : Prop := fnExactKrammerMatrixRow.holds Try.pinned (OpenSpec.ofChange fnExactKrammerMatrixSpec)

/-- ITS FALSE NEIGHBOUR: 'it returns false'. Refute it at one input. -/
def fnExactKrammerMatrixWrong : ChangeSpec := { name := "fnExactKrammerMatrix", fn := fun _ => fun
  | [d1, d2, d3] => { results := [.lit (.bool false)], args := [d1, d2, d3] }
  | _ => none }
def FnExactKrammerMatrixWrongFalsely : Prop := fnExactKrammerMatrixRow.holds Try.pinned (OpenSpec.ofChange fnExactKrammerMatrixWrong)

/- THE SECOND FORM. 'bulk': how many values and letters a reading holds, each counted each time it is reached (what is shared counts as often as it is met; a slice's spare places count too). A statement '..UptoSaid' is the law's where the arguments, and the package variables that the reading takes, are together of bulk at most 1048576: NARROWER than '..Said'. Prove '..Said' where nothing that the law and all that it calls make is longer than what came in: it says more and counts as full. Else prove '..UptoSaid'. A law counts once. -/
mutual
def uptoBulk {H : Type} : DataW H → Nat
  | .lit (.string bytes) => bytes.length + 1
  | .lit _ => 1
  | .nil => 1
  | .ptr d => uptoBulk d + 1
  | .slice elems spare => uptoBulkAll elems + uptoBulkAll spare + 1
  | .agg parts => uptoBulkAll parts + 1
  | .iface _ d => uptoBulk d + 1
  | .map entries => uptoBulkEntries entries + 1
  | .held _ => 1
def uptoBulkAll {H : Type} : List (DataW H) → Nat
  | [] => 0
  | d :: r => uptoBulk d + uptoBulkAll r
def uptoBulkEntries {H : Type} : List (Lit × DataW H) → Nat
  | [] => 0
  | x :: r => uptoBulkEntry x + uptoBulkEntries r
def uptoBulkEntry {H : Type} : Lit × DataW H → Nat
  | (.string bytes, d) => bytes.length + uptoBulk d + 1
  | (_, d) => uptoBulk d + 1
 end
def uptoSmall : (H : Type) → List (DataW H) → Bool := fun _ ds => decide (uptoBulkAll ds ≤ 1048576)
def OpenSpec.upto (s : _root_.Go.ChangeSpec) : _root_.Go.OpenSpec := { _root_.Go.OpenSpec.ofChange s with cond := some uptoSmall }

/-- 'laws.FnExactBurauModulo', WHERE WHAT IT READS IS OF BULK AT MOST 1048576: true; the input reads as it did. -/
def fnExactBurauModuloUptoRow : OpenClaim := { program := "ytifmdgffimckgaa", sum := "6a61db655530e8b65ca9ab8347c6ef4c29c4837979e858f269cfa4a4f5780e57", func := "loop.example/g01205/laws.FnExactBurauModulo", spec := "fnExactBurauModulo", unfollowed := true, recurses := true, plainKeys := false, apart := false, narrowed := true }
def FnExactBurauModuloUptoSaid : Prop := fnExactBurauModuloUptoRow.holds Try.pinned (OpenSpec.upto fnExactBurauModuloSpec)

/-- 'laws.FnExactKrammerTrace', WHERE WHAT IT READS IS OF BULK AT MOST 1048576: true; the input reads as it did. -/
def fnExactKrammerTraceUptoRow : OpenClaim := { program := "ytifmdgffimckgaa", sum := "6a61db655530e8b65ca9ab8347c6ef4c29c4837979e858f269cfa4a4f5780e57", func := "loop.example/g01205/laws.FnExactKrammerTrace", spec := "fnExactKrammerTrace", unfollowed := true, recurses := true, plainKeys := false, apart := false, narrowed := true }
def FnExactKrammerTraceUptoSaid : Prop := fnExactKrammerTraceUptoRow.holds Try.pinned (OpenSpec.upto fnExactKrammerTraceSpec)

/-- 'laws.FnExactKrammerMatrix', WHERE WHAT IT READS IS OF BULK AT MOST 1048576: true; the input reads as it did. -/
def fnExactKrammerMatrixUptoRow : OpenClaim := { program := "ytifmdgffimckgaa", sum := "6a61db655530e8b65ca9ab8347c6ef4c29c4837979e858f269cfa4a4f5780e57", func := "loop.example/g01205/laws.FnExactKrammerMatrix", spec := "fnExactKrammerMatrix", unfollowed := true, recurses := true, plainKeys := false, apart := false, narrowed := true }
def FnExactKrammerMatrixUptoSaid : Prop := fnExactKrammerMatrixUptoRow.holds Try.pinned (OpenSpec.upto fnExactKrammerMatrixSpec)

end Rows
end Go.Proofs.Ytifmdgffimckgaa
