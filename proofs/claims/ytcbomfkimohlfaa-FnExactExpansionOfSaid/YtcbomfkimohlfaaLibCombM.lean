/- Combs of pure braids: the answer's model. -/
import Derived.Test.YtcbomfkimohlfaaLibPure
set_option linter.unusedVariables false
set_option linter.unusedSimpArgs false
namespace Go.Proofs.Ytcbomfkimohlfaa.Lib
open Go.RowKit Go.Proofs.YtcbomfkimohlfaaW.PrintWords
def combM (n : Int) (l : List Int) : List (List Int) × Int := if pureM n l = 0 then (match combGo' (n - 1).toNat l [] with
  | some r => (r, 0)
  | none => ([], 3)) else ([], pureM n l)
theorem combM_bound (n : Int) (l : List Int) : (combM n l).1.length ≤ 7 ∧ ∀ q ∈ (combM n l).1, q.length ≤ 400 := by
  unfold combM
  by_cases hp : pureM n l = 0
  · have h : isBraidB n l = true := by
      by_cases h : isBraidB n l = true
      · exact h
      · rw [pureM, if_neg h] at hp; omega
    obtain ⟨hn, hb, _⟩ := isBraidB_iff.1 h
    rw [if_pos hp]
    cases e : combGo' (n - 1).toNat l [] with
    | none => simp
    | some r =>
      have := combGo'_ok _ (by omega) (braid_letters h) (by simp) e
      simp only [List.length_nil] at this
      exact ⟨by simp only; omega, this.2⟩
  · rw [if_neg hp]; simp
end Go.Proofs.Ytcbomfkimohlfaa.Lib
