/- Braids that act alike: the plain function. -/
import Derived.Test.YtppkpeephommhaaLibStrand
import Derived.Test.YtppkpeephommhaaLibRows
set_option linter.unusedVariables false
set_option linter.unusedSimpArgs false
namespace Go.Proofs.Ytppkpeephommhaa.Lib
open Go.RowKit Go.Proofs.YtppkpeephommhaaW.PrintWords
def sameR : Option (List (List Int)) → Option (List (List Int)) → Bool × Int
  | some x, some y => (decide (x = y), 0)
  | some _, none => (false, 3)
  | none, _ => (false, 3)
def sameM (n : Int) (l : List Int) (m : Int) (s : List Int) : Bool × Int :=
  if isBraidB n l = true then (if isBraidB m s = true then (if n = m then sameR (imagesGo l n.toNat 1 []) (imagesGo s m.toNat 1 []) else (false, 2)) else (false, 1)) else (false, 1)
theorem imagesGo_ok {l : List Int} {n : Int} {r : List (List Int)} (hn : 1 ≤ n ∧ n ≤ 8) (e : imagesGo l n.toNat 1 [] = some r) : (r.length : Int) = n ∧ ∀ q ∈ r, q.length ≤ 4000 := by
  have := imagesGo_bound (acc := []) (by simp) e
  refine ⟨?_, this.2⟩
  have h1 := this.1
  simp only [List.length_nil] at h1
  omega
end Go.Proofs.Ytppkpeephommhaa.Lib
