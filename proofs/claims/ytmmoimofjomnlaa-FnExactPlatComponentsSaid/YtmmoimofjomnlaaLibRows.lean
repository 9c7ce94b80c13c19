/- Rows of rows, counted through: plain words on 'mark' and 'held'. -/
import Derived.Test.YtmmoimofjomnlaaLib
set_option linter.unusedVariables false
namespace Go.Proofs.Ytmmoimofjomnlaa.Lib
def total : List (List Int) → Nat
  | [] => 0
  | r :: l => r.length + total l
def iotaSS (x : Int) : List (List Int) → List (List Int)
  | [] => []
  | r :: l => iota x r.length :: iotaSS (x + r.length) l
theorem iotaSS_length (x : Int) (l : List (List Int)) : (iotaSS x l).length = l.length := by
  induction l generalizing x with
  | nil => rfl
  | cons r l ih => simp [iotaSS, ih]
theorem total_le {l : List (List Int)} {b : Nat} (h : ∀ q ∈ l, q.length ≤ b) : total l ≤ l.length * b := by
  induction l with
  | nil => simp [total]
  | cons r l ih =>
    have h1 := h r (by simp)
    have h2 := ih (fun q hq => h q (by simp [hq]))
    simp only [total, List.length_cons, Nat.succ_mul]
    omega
theorem total_iotaSS (x : Int) (l : List (List Int)) : total (iotaSS x l) = total l := by
  induction l generalizing x with
  | nil => rfl
  | cons r l ih => simp [iotaSS, total, iota_length, ih]
theorem rdl_pre (p l : List (List Int)) (r : List Int) (i : Nat) (h : p.length = i) : rdl (p ++ r :: l) (i : Int) = r := by
  subst h
  simp [rdl, List.getD_eq_getElem?_getD]
theorem set_pre (p l : List (List Int)) (r q : List Int) (i : Nat) (h : p.length = i) : (p ++ r :: l).set i q = (p ++ [q]) ++ l := by
  subst h
  simp
end Go.Proofs.Ytmmoimofjomnlaa.Lib
