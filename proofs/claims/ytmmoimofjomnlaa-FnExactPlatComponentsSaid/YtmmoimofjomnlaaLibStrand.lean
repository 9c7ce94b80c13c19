/- Strands forgotten and doubled, letters acting on free words: the plain functions. -/
import Derived.Test.YtmmoimofjomnlaaLib
set_option linter.unusedVariables false
set_option linter.unusedSimpArgs false
namespace Go.Proofs.Ytmmoimofjomnlaa.Lib
open Go.RowKit Go.Proofs.YtmmoimofjomnlaaW.PrintWords
def sgnI (x : Int) : Int := if x > 0 then 1 else -1
theorem absI_pos {x : Int} (h : x ≠ 0) : 1 ≤ absI x := by rw [absI_eq]; split <;> omega
theorem absI_bd {x b : Int} (h : -b ≤ x ∧ x ≤ b) : absI x ≤ b := by rw [absI_eq]; split <;> omega
theorem sgn_abs {x : Int} (h : x ≠ 0) : sgnI x * absI x = x := by
  rw [absI_eq]; unfold sgnI
  split <;> split <;> omega
theorem sgn_abs1 {x : Int} (h : x ≠ 0) : sgnI x * (absI x - 1) = x - sgnI x := by rw [Int.mul_sub, sgn_abs h]; omega
theorem sgn_abs2 {x : Int} (h : x ≠ 0) : sgnI x * (absI x + 1) = x + sgnI x := by rw [Int.mul_add, sgn_abs h]; omega
theorem sgn_lt {x : Int} (h : x ≠ 0) : sgnI x = if x < 0 then -1 else 1 := by unfold sgnI; split <;> split <;> omega
theorem sgn_cases (x : Int) : sgnI x = 1 ∨ sgnI x = -1 := by unfold sgnI; split <;> simp
def forgetGo : Int → List Int → List Int
  | _, [] => []
  | p, y :: r => if absI y = p then forgetGo (p - 1) r else if absI y = p + 1 then forgetGo (p + 1) r else if absI y < p then y :: forgetGo p r else (y - sgnI y) :: forgetGo p r
theorem forgetGo_length (p : Int) (l : List Int) : (forgetGo p l).length ≤ l.length := by
  induction l generalizing p with
  | nil => simp [forgetGo]
  | cons y r ih =>
    simp only [forgetGo]
    have := ih p; have := ih (p - 1); have := ih (p + 1)
    split
    · simp; omega
    · split
      · simp; omega
      · split <;> simp <;> omega
def forgetM (n : Int) (l : List Int) (x : Int) : Int × List Int × Int :=
  if isBraidB n l = true then (if 2 ≤ n ∧ 0 ≤ x ∧ x ≤ n - 1 then (n - 1, forgetGo x l, 0) else (0, [], 2)) else (0, [], 1)
theorem forgetM_length (n : Int) (l : List Int) (x : Int) : (forgetM n l x).2.1.length ≤ 200 := by
  unfold forgetM
  split
  · rename_i h
    have := (isBraidB_iff.1 h).2.1
    split
    · have := forgetGo_length x l; simp only; omega
    · simp
  · simp
def doubleGo : Int → List Int → List Int
  | _, [] => []
  | p, y :: r => if absI y = p then sgnI y * p :: sgnI y * (p + 1) :: doubleGo (p - 1) r else if absI y = p + 1 then sgnI y * (p + 2) :: sgnI y * (p + 1) :: doubleGo (p + 1) r
    else if absI y < p then y :: doubleGo p r else (y + sgnI y) :: doubleGo p r
theorem doubleGo_length (p : Int) (l : List Int) : (doubleGo p l).length ≤ 2 * l.length := by
  induction l generalizing p with
  | nil => simp [doubleGo]
  | cons y r ih =>
    simp only [doubleGo]
    have := ih p; have := ih (p - 1); have := ih (p + 1)
    split
    · simp; omega
    · split
      · simp; omega
      · split <;> simp <;> omega
def doubleM (n : Int) (l : List Int) (x : Int) : Int × List Int × Int :=
  if isBraidB n l = true then (if 0 ≤ x ∧ x ≤ n - 1 then (if n = 8 then (0, [], 3) else if ((doubleGo x l).length : Int) > 200 then (0, [], 3) else (n + 1, doubleGo x l, 0)) else (0, [], 2)) else (0, [], 1)
theorem doubleM_length (n : Int) (l : List Int) (x : Int) : (doubleM n l x).2.1.length ≤ 200 := by
  unfold doubleM
  split
  · split
    · split
      · simp
      · split
        · simp
        · simp only; omega
    · simp
  · simp
/-! ### Letters act on free words -/
def imgW (letter x : Int) : List Int :=
  if letter > 0 ∧ x = absI letter then [absI letter, absI letter + 1, -absI letter]
  else if letter > 0 ∧ x = absI letter + 1 then [absI letter]
  else if letter < 0 ∧ x = absI letter then [absI letter + 1]
  else if letter < 0 ∧ x = absI letter + 1 then [-(absI letter + 1), absI letter, absI letter + 1]
  else [x]
def imgS (letter x : Int) : List Int := if x < 0 then back (imgW letter (absI x)) else imgW letter (absI x)
def act1 (letter : Int) (w : List Int) : List Int := w.foldl (fun acc x => pushAll acc (imgS letter x)) []
def actAll : List Int → List Int → Option (List Int)
  | [], w => some w
  | y :: r, w => if ((act1 y w).length : Int) > 4000 then none else actAll r (act1 y w)
/-- All numbers stand from 1 to 8, or are opposites of such. -/
def Gens (w : List Int) : Prop := ∀ x ∈ w, x ≠ 0 ∧ -8 ≤ x ∧ x ≤ 8
theorem Gens.small {w : List Int} (h : Gens w) : Small w := Small.of_bound (b := 8) (by omega) fun x hx => (h x hx).2
theorem Gens.of_free {n : Int} {l : List Int} (h : isFreeB n l = true) : Gens l := by
  obtain ⟨hn, _, hf⟩ := isFreeB_iff.1 h
  intro x hx
  have := freeFrom_gen hf x hx
  omega
theorem Gens.back {w : List Int} (h : Gens w) : Gens (back w) := fun x hx => by have := h _ (back_mem hx); omega
theorem imgW_gens {letter x : Int} (hl : letter ≠ 0 ∧ -7 ≤ letter ∧ letter ≤ 7) (hx : x ≠ 0 ∧ -8 ≤ x ∧ x ≤ 8) : Gens (imgW letter x) := by
  have h1 := absI_pos hl.1
  have h2 := absI_bd hl.2
  unfold imgW
  intro y hy
  split at hy
  · simp at hy; omega
  · split at hy
    · simp at hy; omega
    · split at hy
      · simp at hy; omega
      · split at hy
        · simp at hy; omega
        · simp at hy; omega
theorem imgW_length (letter x : Int) : (imgW letter x).length ≤ 3 := by
  unfold imgW
  split
  · simp
  · split
    · simp
    · split
      · simp
      · split <;> simp
theorem imgS_gens {letter x : Int} (hl : letter ≠ 0 ∧ -7 ≤ letter ∧ letter ≤ 7) (hx : x ≠ 0 ∧ -8 ≤ x ∧ x ≤ 8) : Gens (imgS letter x) := by
  have h1 := absI_pos hx.1
  have h2 := absI_bd hx.2
  unfold imgS
  split
  · exact (imgW_gens hl ⟨by omega, by omega, by omega⟩).back
  · exact imgW_gens hl ⟨by omega, by omega, by omega⟩
theorem imgS_length (letter x : Int) : (imgS letter x).length ≤ 3 := by
  unfold imgS
  split
  · rw [back_length]; exact imgW_length _ _
  · exact imgW_length _ _
theorem act_gens {letter : Int} {w acc : List Int} (hl : letter ≠ 0 ∧ -7 ≤ letter ∧ letter ≤ 7) (hw : Gens w) (ha : Gens acc) : Gens (w.foldl (fun acc x => pushAll acc (imgS letter x)) acc) := by
  induction w generalizing acc with
  | nil => exact ha
  | cons x r ih =>
    refine ih (fun y hy => hw y (by simp [hy])) fun y hy => ?_
    rcases pushAll_mem hy with h | h
    · exact ha y h
    · exact imgS_gens hl (hw x (by simp)) y h
theorem act1_gens {letter : Int} {w : List Int} (hl : letter ≠ 0 ∧ -7 ≤ letter ∧ letter ≤ 7) (hw : Gens w) : Gens (act1 letter w) := act_gens hl hw (by simp [Gens])
theorem actAll_length {l w r : List Int} (hw : w.length ≤ 4000) (h : actAll l w = some r) : r.length ≤ 4000 := by
  induction l generalizing w with
  | nil => simp [actAll] at h; subst h; exact hw
  | cons y l ih =>
    simp only [actAll] at h
    split at h
    · cases h
    · exact ih (by omega) h
theorem actAll_gens {l w r : List Int} (hl : ∀ y ∈ l, y ≠ 0 ∧ -7 ≤ y ∧ y ≤ 7) (hw : Gens w) (h : actAll l w = some r) : Gens r := by
  induction l generalizing w with
  | nil => simp [actAll] at h; subst h; exact hw
  | cons y l ih =>
    simp only [actAll] at h
    split at h
    · cases h
    · exact ih (fun z hz => hl z (by simp [hz])) (act1_gens (hl y (by simp)) hw) h
def actM (n : Int) (l a : List Int) : List Int × Int :=
  if isBraidB n l = true ∧ isFreeB n a = true then (match actAll l a with | some w => (w, 0) | none => ([], 3)) else ([], 1)
theorem actM_length (n : Int) (l a : List Int) : (actM n l a).1.length ≤ 4000 := by
  unfold actM
  split
  · rename_i h
    cases e : actAll l a with
    | none => simp
    | some w => exact actAll_length (isFreeB_iff.1 h.2).2.1 e
  · simp
theorem braid_letters {n : Int} {l : List Int} (h : isBraidB n l = true) : ∀ y ∈ l, y ≠ 0 ∧ -7 ≤ y ∧ y ≤ 7 := by
  obtain ⟨hn, _, hf⟩ := isBraidB_iff.1 h
  intro y hy
  have := hf y hy
  omega
theorem drop_len {α : Type} (l : List α) (i : Nat) (h : l.length ≤ i) : l.drop i = [] := List.drop_of_length_le h
/-- The images of the generators from i on, d of them. -/
def imagesGo (l : List Int) : Nat → Int → List (List Int) → Option (List (List Int))
  | 0, _, acc => some acc
  | d + 1, i, acc => match actAll l [i] with
    | some w => imagesGo l d (i + 1) (acc ++ [w])
    | none => none
def imagesM (n : Int) (l : List Int) : List (List Int) × Int :=
  if isBraidB n l = true then (match imagesGo l n.toNat 1 [] with | some r => (r, 0) | none => ([], 3)) else ([], 1)
theorem imagesGo_bound {l : List Int} {d : Nat} : ∀ {i : Int} {acc r : List (List Int)}, (∀ q ∈ acc, q.length ≤ 4000) → imagesGo l d i acc = some r → r.length = acc.length + d ∧ ∀ q ∈ r, q.length ≤ 4000 := by
  induction d with
  | zero =>
    intro i acc r h e
    simp only [imagesGo, Option.some.injEq] at e
    subst e
    exact ⟨rfl, h⟩
  | succ d ih =>
    intro i acc r h e
    simp only [imagesGo] at e
    cases ha : actAll l [i] with
    | none => rw [ha] at e; cases e
    | some w =>
      rw [ha] at e
      have hw := actAll_length (w := [i]) (by simp) ha
      have := ih (acc := acc ++ [w]) (fun q hq => by
        rcases List.mem_append.1 hq with h1 | h1
        · exact h q h1
        · rw [List.mem_singleton.1 h1]; exact hw) e
      refine ⟨?_, this.2⟩
      have h1 := this.1
      simp at h1
      omega
theorem imagesM_bound (n : Int) (l : List Int) : (imagesM n l).1.length ≤ 8 ∧ ∀ q ∈ (imagesM n l).1, q.length ≤ 4000 := by
  unfold imagesM
  split
  · rename_i h
    have hn := (isBraidB_iff.1 h).1
    cases e : imagesGo l n.toNat 1 [] with
    | none => simp
    | some r =>
      have := imagesGo_bound (acc := []) (by simp) e
      refine ⟨?_, this.2⟩
      have h1 := this.1
      simp only [List.length_nil] at h1
      simp only
      omega
  · simp
end Go.Proofs.Ytmmoimofjomnlaa.Lib
