/- The braid of a comb: the plain functions. -/
import Derived.Test.YtcbomfkimohlfaaLibStrand
import Derived.Test.YtcbomfkimohlfaaLibRows
set_option linter.unusedVariables false
set_option linter.unusedSimpArgs false
namespace Go.Proofs.Ytcbomfkimohlfaa.Lib
open Go.RowKit Go.Proofs.YtcbomfkimohlfaaW.PrintWords
/-- The word of a letter x of the word for j. -/
def letW (j x : Int) : List Int := if x < 0 then back (genW (absI x - 1) j) else genW (absI x - 1) j
def wordGo (j : Int) : List Int → List Int → Option (List Int)
  | [], acc => some acc
  | x :: r, acc => if ((acc ++ letW j x).length : Int) > 200 then none else wordGo j r (acc ++ letW j x)
def combGo : Int → List (List Int) → List Int → Option (List Int)
  | _, [], acc => some acc
  | j, w :: r, acc => match wordGo j w acc with
    | none => none
    | some a => combGo (j - 1) r a
theorem wordGo_length {j : Int} (w : List Int) : ∀ {acc r : List Int}, acc.length ≤ 200 → wordGo j w acc = some r → r.length ≤ 200 := by
  induction w with
  | nil => intro acc r ha h; simp only [wordGo, Option.some.injEq] at h; subst h; exact ha
  | cons x w ih =>
    intro acc r ha h
    simp only [wordGo] at h
    split at h
    · cases h
    · exact ih (by omega) h
theorem combGo_length (l : List (List Int)) : ∀ {j : Int} {acc r : List Int}, acc.length ≤ 200 → combGo j l acc = some r → r.length ≤ 200 := by
  induction l with
  | nil => intro j acc r ha h; simp only [combGo, Option.some.injEq] at h; subst h; exact ha
  | cons w l ih =>
    intro j acc r ha h
    simp only [combGo] at h
    split at h
    · cases h
    · rename_i a e
      exact ih (wordGo_length w ha e) h
def combR (n : Int) : Option (List Int) → Int × List Int × Int
  | some r => (n, r, 0)
  | none => (0, [], 3)
def bocM (n : Int) (l : List (List Int)) : Int × List Int × Int :=
  if combB n l = true then combR n (combGo (n - 1) l []) else (0, [], 1)
theorem bocM_length (n : Int) (l : List (List Int)) : (bocM n l).2.1.length ≤ 200 := by
  unfold bocM
  split
  · cases e : combGo (n - 1) l [] with
    | some r => exact combGo_length l (by simp) e
    | none => simp [combR]
  · simp
theorem letW_length (j x : Int) (h : 1 ≤ absI x ∧ absI x ≤ j) (hj : j ≤ 7) : (letW j x).length ≤ 20 := by
  unfold letW
  split
  · rw [back_length, genW_length]; omega
  · rw [genW_length]; omega
theorem mx_abs (x : Int) (h : -1000 ≤ x ∧ x ≤ 1000) : mx x (wrap64 (-x)) = absI x := by
  rw [w64 (x := -x) (by omega) (by omega)]; rfl
end Go.Proofs.Ytcbomfkimohlfaa.Lib
