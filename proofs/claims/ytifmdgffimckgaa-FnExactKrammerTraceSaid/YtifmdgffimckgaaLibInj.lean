/- Elimination in the field of 10007 elements comes through where no vector is sent to 0: then each column has a pivot. -/
import Derived.Test.YtifmdgffimckgaaLibInv
set_option linter.unusedVariables false
set_option linter.unusedSimpArgs false
namespace Go.Proofs.Ytifmdgffimckgaa.Lib
open Go.RowKit Go.Proofs.YtifmdgffimckgaaW.PrintWords Go.Proofs.Ytifmdgffimckgaa.LibMx
namespace inj
open iv
abbrev LLx := List (List Int)
-- the inverse modulo 10007: all numbers, tried
def test (x : Nat) : Bool := x == 0 || decide (10007 ≤ x) || decide (((x : Int) * invM (x : Int)) % 10007 = 1)
def chk : Nat → Nat → Bool
  | 0, lo => test lo
  | k + 1, lo => chk k lo && chk k (lo + 2 ^ k)
theorem chk_all : ∀ (k lo : Nat), chk k lo = true → ∀ x, lo ≤ x → x < lo + 2 ^ k → test x = true
  | 0, lo, h, x, h0, h1 => by
    have : x = lo := by simp at h1; omega
    subst this; exact h
  | k + 1, lo, h, x, h0, h1 => by
    unfold chk at h
    rw [Bool.and_eq_true] at h
    by_cases e : x < lo + 2 ^ k
    · exact chk_all k lo h.1 x h0 e
    · exact chk_all k _ h.2 x (by omega) (by rw [Nat.pow_succ] at h1; omega)
theorem chk14 : chk 14 0 = true := by decide +kernel
theorem invM_mul {x : Int} (h : 1 ≤ x ∧ x ≤ 10006) : (x * invM x) % 10007 = 1 := by
  have := chk_all 14 0 chk14 x.toNat (by omega) (by omega)
  unfold test at this
  rw [show ((x.toNat : Nat) : Int) = x by omega] at this
  simp only [Bool.or_eq_true, beq_iff_eq, decide_eq_true_eq] at this
  omega
end inj
end Go.Proofs.Ytifmdgffimckgaa.Lib
