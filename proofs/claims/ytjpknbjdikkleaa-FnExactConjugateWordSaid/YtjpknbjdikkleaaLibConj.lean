/- Words between a word and its inverse: the plain function. -/
import Derived.Test.YtjpknbjdikkleaaLib
set_option linter.unusedVariables false
set_option linter.unusedSimpArgs false
namespace Go.Proofs.Ytjpknbjdikkleaa.Lib
open Go.RowKit Go.Proofs.YtjpknbjdikkleaaW.PrintWords
def conjM (n : Int) (l : List Int) (m : Int) (s : List Int) : Int × List Int × Int :=
  if isBraidB n l = true then (if isBraidB m s = true then (if n = m then limM n (s ++ l ++ back s) else (0, [], 2)) else (0, [], 1)) else (0, [], 1)
theorem conjM_length (n : Int) (l : List Int) (m : Int) (s : List Int) : (conjM n l m s).2.1.length ≤ 200 := by
  unfold conjM
  split
  · split
    · split
      · exact limM_length _ _
      · simp
    · simp
  · simp
theorem braid_back {n : Int} {s : List Int} (h : isBraidB n s = true) : isBraidB n (back s) = true := by
  obtain ⟨hn, hl, hx⟩ := isBraidB_iff.1 h
  refine isBraidB_iff.2 ⟨hn, by rw [back_length]; exact hl, fun x hx' => ?_⟩
  have := hx _ (back_mem hx')
  omega
theorem conj_braid {n : Int} {l s : List Int} (h : isBraidB n l = true) (hs : isBraidB n s = true) : isBraidB n (s ++ l ++ back s) = true ↔ l.length + 2 * s.length ≤ 200 := by
  obtain ⟨hn, hl, hx⟩ := isBraidB_iff.1 h
  obtain ⟨_, hsl, hsx⟩ := isBraidB_iff.1 hs
  obtain ⟨_, _, hbx⟩ := isBraidB_iff.1 (braid_back hs)
  have e : (s ++ l ++ back s).length = l.length + 2 * s.length := by simp [back_length]; omega
  rw [isBraidB_iff, e]
  constructor
  · intro h'; exact h'.2.1
  · intro h'
    refine ⟨hn, h', fun x hx' => ?_⟩
    rcases List.mem_append.1 hx' with hx' | hx'
    · rcases List.mem_append.1 hx' with hx' | hx'
      · exact hsx x hx'
      · exact hx x hx'
    · exact hbx x hx'
end Go.Proofs.Ytjpknbjdikkleaa.Lib
