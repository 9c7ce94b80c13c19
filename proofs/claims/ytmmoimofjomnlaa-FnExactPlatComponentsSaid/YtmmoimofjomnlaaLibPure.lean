/- Pure braids: the plain functions. -/
import Derived.Test.YtmmoimofjomnlaaLibTooth
set_option linter.unusedVariables false
set_option linter.unusedSimpArgs false
namespace Go.Proofs.Ytmmoimofjomnlaa.Lib
open Go.RowKit Go.Proofs.YtmmoimofjomnlaaW.PrintWords
/-- Places k - 1 and k exchanged, k the size of x. -/
def swI (xs : List Int) (x : Int) : List Int := (xs.set (absI x - 1).toNat (rd xs (absI x))).set (absI x).toNat (rd xs (absI x - 1))
def atL (n : Nat) (l : List Int) : List Int := l.foldl swI (iota 0 n)
def endsGo (s : List Int) (n : Nat) : Nat → List Int
  | 0 => List.replicate n 0
  | k + 1 => (endsGo s n k).set (rd s (k : Int)).toNat (k : Int)
def pureB (n : Int) (l : List Int) : Bool := decide (endsGo (atL n.toNat l) n.toNat n.toNat = iota 0 n.toNat)
def pureM (n : Int) (l : List Int) : Int := if isBraidB n l = true then (if pureB n l = true then 0 else 5) else 1
theorem endsGo_length (s : List Int) (n : Nat) : ∀ k, (endsGo s n k).length = n
  | 0 => by simp [endsGo]
  | k + 1 => by rw [endsGo, List.length_set]; exact endsGo_length s n k
def InN (n : Nat) (xs : List Int) : Prop := xs.length = n ∧ ∀ v ∈ xs, 0 ≤ v ∧ v < (n : Int)
theorem InN.set {n : Nat} {xs : List Int} (h : InN n xs) (i : Nat) {v : Int} (hv : 0 ≤ v ∧ v < (n : Int)) : InN n (xs.set i v) := ⟨by rw [List.length_set]; exact h.1, fun y hy => by
  rcases List.mem_or_eq_of_mem_set hy with h1 | rfl
  · exact h.2 y h1
  · exact hv⟩
theorem rd_in {n : Nat} {xs : List Int} (h : InN n xs) {x : Int} (h0 : 0 ≤ x) (h1 : x < (n : Int)) : 0 ≤ rd xs x ∧ rd xs x < (n : Int) := by
  have := h.1
  have e := rd_mem xs x.toNat (by omega)
  rw [show ((x.toNat : Nat) : Int) = x by omega] at e
  exact h.2 _ e
theorem swI_in {n : Nat} {xs : List Int} (h : InN n xs) {x : Int} (hx : 1 ≤ absI x ∧ absI x < (n : Int)) : InN n (swI xs x) :=
  (h.set _ (rd_in h (by omega) hx.2)).set _ (rd_in h (by omega) (by omega))
theorem iota_mem {k : Int} {n : Nat} : ∀ {y : Int}, y ∈ iota k n → k ≤ y ∧ y < k + n := by
  induction n generalizing k with
  | zero => intro y hy; simp [iota] at hy
  | succ n ih =>
    intro y hy
    simp only [iota, List.mem_cons] at hy
    rcases hy with rfl | h
    · omega
    · have := ih h; omega
theorem iota_in (n : Nat) : InN n (iota 0 n) := ⟨iota_length 0 n, fun v hv => by have := iota_mem hv; omega⟩
theorem fold_in {n : Nat} {l : List Int} (hl : ∀ x ∈ l, 1 ≤ absI x ∧ absI x < (n : Int)) : ∀ {xs : List Int}, InN n xs → InN n (l.foldl swI xs) := by
  induction l with
  | nil => intro xs h; exact h
  | cons x l ih => intro xs h; exact ih (fun y hy => hl y (by simp [hy])) (swI_in h (hl x (by simp)))
theorem atL_in {n : Nat} {l : List Int} (hl : ∀ x ∈ l, 1 ≤ absI x ∧ absI x < (n : Int)) : InN n (atL n l) := fold_in hl (iota_in n)
theorem rd_app (xs ys : List Int) {x : Int} (h0 : 0 ≤ x) (h1 : x < (xs.length : Int)) : rd (xs ++ ys) x = rd xs x := by
  have : x.toNat < xs.length := by omega
  simp [rd, List.getD_eq_getElem?_getD, List.getElem?_append_left this]
theorem braid_sizes {n : Int} {l : List Int} (h : isBraidB n l = true) : ∀ x ∈ l, 1 ≤ absI x ∧ absI x < (n.toNat : Int) := by
  obtain ⟨hn, _, hx⟩ := isBraidB_iff.1 h
  intro x hx'
  have h1 := hx x hx'
  have := absI_pos h1.1
  have := absI_bd (x := x) (b := n - 1) ⟨by omega, h1.2.2⟩
  omega
/-- Each end is its own place, from i on. -/
def pureGo (ends : List Int) : Nat → Nat → Bool
  | _, 0 => true
  | i, d + 1 => decide ((i : Int) = rd ends (i : Int)) && pureGo ends (i + 1) d
theorem pureGo_iff (ends : List Int) : ∀ (d i : Nat), i + d = ends.length → (pureGo ends i d = true ↔ ends.drop i = iota (i : Int) d)
  | 0, i, h => by rw [List.drop_of_length_le (by omega)]; simp [pureGo, iota]
  | d + 1, i, h => by
    rw [drop_rd ends i (by omega), iota, pureGo, Bool.and_eq_true, decide_eq_true_eq, pureGo_iff ends d (i + 1) (by omega), List.cons.injEq]
    simp only [Int.natCast_add, Int.natCast_one]
    constructor
    · intro h; exact ⟨h.1.symm, h.2⟩
    · intro h; exact ⟨h.1.symm, h.2⟩
theorem pureGo_eq (n : Int) (l : List Int) : pureGo (endsGo (atL n.toNat l) n.toNat n.toNat) 0 n.toNat = pureB n l := by
  rw [pureB, Bool.eq_iff_iff, decide_eq_true_eq, pureGo_iff _ _ _ (by rw [endsGo_length]; omega)]
  simp
/-! ### Brunnian -/
def emptyB (q : List Int) : Bool := (q.length : Int) == 0
def brunGo (n : Int) (l : List Int) : Nat → Int → Bool → Bool × Int
  | 0, _, all => (all, 0)
  | d + 1, x, all => match combGo' (n - 2).toNat (forgetGo x l) [] with
    | none => (false, 3)
    | some r => brunGo n l d (x + 1) (all && r.all emptyB)
def brunM (n : Int) (l : List Int) : Bool × Int := if pureM n l = 0 then (if n = 1 then (true, 0) else brunGo n l n.toNat 0 true) else (false, pureM n l)
theorem forgetGo_ok (l : List Int) : ∀ {p : Int}, 0 ≤ p → (∀ y ∈ l, y ≠ 0 ∧ -7 ≤ y ∧ y ≤ 7) → ∀ y ∈ forgetGo p l, y ≠ 0 ∧ -7 ≤ y ∧ y ≤ 7 := by
  induction l with
  | nil => intro p h0 hl y hy; simp [forgetGo] at hy
  | cons x l ih =>
    intro p h0 hl y hy
    have hx := hl x (by simp)
    have hl' : ∀ y ∈ l, y ≠ 0 ∧ -7 ≤ y ∧ y ≤ 7 := fun y hy => hl y (by simp [hy])
    have h1 := absI_pos hx.1
    simp only [forgetGo] at hy
    split at hy
    · exact ih (by omega) hl' y hy
    · split at hy
      · exact ih (by omega) hl' y hy
      · split at hy
        · rcases List.mem_cons.1 hy with rfl | h
          · exact hx
          · exact ih h0 hl' y h
        · rcases List.mem_cons.1 hy with rfl | h
          · have := absI_eq x
            unfold sgnI
            split <;> split at this <;> omega
          · exact ih h0 hl' y h
end Go.Proofs.Ytmmoimofjomnlaa.Lib
