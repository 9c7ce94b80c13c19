/- Colourings: the plain functions. -/
import Derived.Test.YtcbomfkimohlfaaLibComb
set_option linter.unusedVariables false
set_option linter.unusedSimpArgs false
namespace Go.Proofs.Ytcbomfkimohlfaa.Lib
open Go.RowKit Go.Proofs.YtcbomfkimohlfaaW.PrintWords
def primeGo : Nat → Int → Int → Bool
  | 0, _, _ => true
  | d + 1, p, x => if x * x ≤ p then (if Int.tmod p x = 0 then false else primeGo d p (x + 1)) else true
def primeB (p : Int) : Bool := inB p 3 97 && primeGo 12 p 2
theorem primeB_range {p : Int} (h : primeB p = true) : 3 ≤ p ∧ p ≤ 97 := by
  simp only [primeB, Bool.and_eq_true] at h
  exact inB_iff.1 h.1
def colStep (p : Int) (acc : List Int) (x : Int) : List Int :=
  let m := (absI x - 1).toNat
  if x > 0 then (acc.set m ((2 * rd acc (m : Int) - rd acc ((m : Int) + 1) + p).tmod p)).set (m + 1) (rd acc (m : Int))
  else (acc.set m (rd acc ((m : Int) + 1))).set (m + 1) ((2 * rd acc ((m : Int) + 1) - rd acc (m : Int) + p).tmod p)
def InP (p : Int) (c : List Int) : Prop := ∀ x ∈ c, 0 ≤ x ∧ x ≤ p - 1
theorem InP.rd {p : Int} {c : List Int} (h : InP p c) (i : Nat) (hi : i < c.length) : 0 ≤ rd c (i : Int) ∧ rd c (i : Int) ≤ p - 1 := h _ (rd_mem c i hi)
theorem InP.set {p : Int} {c : List Int} (h : InP p c) (i : Nat) {x : Int} (hx : 0 ≤ x ∧ x ≤ p - 1) : InP p (c.set i x) := fun y hy => by
  rcases List.mem_or_eq_of_mem_set hy with h1 | rfl
  · exact h y h1
  · exact hx
theorem tmod_p {p x : Int} (hp : 3 ≤ p) (h : 0 ≤ x) : 0 ≤ x.tmod p ∧ x.tmod p ≤ p - 1 := by
  rw [Int.tmod_eq_emod_of_nonneg h]
  have h1 := Int.emod_nonneg x (show p ≠ 0 by omega)
  have h2 := Int.emod_lt_of_pos x (show 0 < p by omega)
  omega
theorem colStep_length (p : Int) (acc : List Int) (x : Int) : (colStep p acc x).length = acc.length := by
  unfold colStep
  split <;> simp
theorem colStep_InP {p : Int} {acc : List Int} {x : Int} (hp : 3 ≤ p) (h : InP p acc) (hx : 1 ≤ absI x ∧ absI x ≤ (acc.length : Int) - 1) : InP p (colStep p acc x) := by
  have h1 := h.rd (absI x - 1).toNat (by omega)
  have h2 := h.rd ((absI x - 1).toNat + 1) (by omega)
  rw [Int.natCast_add, Int.natCast_one] at h2
  unfold colStep
  split
  · exact (h.set _ (tmod_p hp (by omega))).set _ h1
  · exact (h.set _ h2).set _ (tmod_p hp (by omega))
def colAll (p : Int) : List Int → List Int → List Int
  | [], acc => acc
  | x :: l, acc => colAll p l (colStep p acc x)
theorem colAll_length (p : Int) (l : List Int) : ∀ acc, (colAll p l acc).length = acc.length := by
  induction l with
  | nil => intro acc; rfl
  | cons x l ih => intro acc; rw [colAll, ih, colStep_length]
def inAll (p : Int) (c : List Int) : Bool := c.all fun x => inB x 0 (p - 1)
theorem inAll_InP {p : Int} {c : List Int} (h : inAll p c = true) : InP p c := fun x hx => inB_iff.1 (List.all_eq_true.1 h x hx)
def codeM (n : Int) (l : List Int) (p : Int) (c : List Int) : Int :=
  if isBraidB n l = true then (if primeB p = true then (if (c.length : Int) = n then (if inAll p c = true then 0 else 2) else 2) else 2) else 1
theorem codeM_zero {n : Int} {l : List Int} {p : Int} {c : List Int} (h : codeM n l p c = 0) : isBraidB n l = true ∧ primeB p = true ∧ (c.length : Int) = n ∧ inAll p c = true := by
  unfold codeM at h
  split at h
  · split at h
    · split at h
      · split at h
        · rename_i a b c d; exact ⟨a, b, c, d⟩
        · cases h
      · cases h
    · cases h
  · cases h
def colourM (n : Int) (l : List Int) (p : Int) (c : List Int) : List Int × Int := if codeM n l p c = 0 then (colAll p l c, 0) else ([], codeM n l p c)
theorem colourM_length (n : Int) (l : List Int) (p : Int) (c : List Int) : (colourM n l p c).1.length ≤ 8 := by
  unfold colourM
  split
  · rename_i h
    obtain ⟨h1, _, h3, _⟩ := codeM_zero h
    have := (isBraidB_iff.1 h1).1
    simp only [colAll_length]
    omega
  · simp
def isColM (n : Int) (l : List Int) (p : Int) (c : List Int) : Bool × Int := if codeM n l p c = 0 then (decide (colAll p l c = c), 0) else (false, codeM n l p c)
end Go.Proofs.Ytcbomfkimohlfaa.Lib
