/- Coefficients of the characteristic polynomial: the plain functions. -/
import Derived.Test.YtifmdgffimckgaaLibMat
set_option linter.unusedVariables false
set_option linter.unusedSimpArgs false
namespace Go.Proofs.Ytifmdgffimckgaa.Lib
open Go.RowKit Go.Proofs.YtifmdgffimckgaaW.PrintWords
def inF (x : Int) : Int := Int.tmod (Int.tmod x 10007 + 10007) 10007
theorem tm_abs (x : Int) : -10006 ≤ Int.tmod x 10007 ∧ Int.tmod x 10007 ≤ 10006 := by
  have h1 := Int.tmod_lt_of_pos x (b := 10007) (by omega)
  have h2 := Int.lt_tmod_of_pos x (b := 10007) (by omega)
  omega
theorem inF_range (x : Int) : 0 ≤ inF x ∧ inF x ≤ 10006 := by
  have := tm_abs x
  exact tm_range (by omega)
theorem inF_wrap (x : Int) : wrap64 (Int.tmod x 10007 + 10007) = Int.tmod x 10007 + 10007 := by
  have h := tm_abs x
  generalize Int.tmod x 10007 = y at *
  exact w64 (by omega) (by omega)
def invGo : Nat → Int → Int → Int → Int
  | 0, out, _, _ => out
  | f + 1, out, sq, e => if e > 0 then (if Int.tmod e 2 = 1 then invGo f ((out * sq).tmod 10007) ((sq * sq).tmod 10007) (Int.tdiv e 2) else invGo f out ((sq * sq).tmod 10007) (Int.tdiv e 2)) else out
theorem invGo_range (f : Nat) : ∀ (out sq e : Int), (0 ≤ out ∧ out ≤ 10006) → (0 ≤ sq ∧ sq ≤ 10006) → 0 ≤ invGo f out sq e ∧ invGo f out sq e ≤ 10006 := by
  induction f with
  | zero => intro out sq e h _; exact h
  | succ f ih =>
    intro out sq e h hs
    have h1 := fm_bound (a := 0) (by omega) h hs
    have h2 := fm_bound (a := 0) (by omega) hs hs
    simp only [invGo]
    split
    · split
      · exact ih _ _ _ (tm_range h1.1) (tm_range h2.1)
      · exact ih _ _ _ h (tm_range h2.1)
    · exact h
def invM (x : Int) : Int := invGo 14 1 x 10005
theorem invM_range {x : Int} (h : 0 ≤ x ∧ x ≤ 10006) : 0 ≤ invM x ∧ invM x ≤ 10006 := invGo_range 14 1 x 10005 (by omega) h
theorem half_lt {e : Int} {f : Nat} (h0 : 0 ≤ e) (h : e < 2 ^ (f + 1)) : 0 ≤ Int.tdiv e 2 ∧ Int.tdiv e 2 < 2 ^ f ∧ Int.tdiv e 2 ≤ e := by
  rw [Int.tdiv_eq_ediv_of_nonneg h0]
  rw [Int.pow_succ] at h
  generalize (2 : Int) ^ f = p at *
  omega
/-- c, added to the numbers at place i of the first row, i + 1 of the second, .. -/
def addD (c : Int) : Nat → List (List Int) → List (List Int)
  | _, [] => []
  | i, r :: l => r.set i ((rd r (i : Int) + c).tmod 10007) :: addD c (i + 1) l
theorem addD_length (c : Int) (l : List (List Int)) : ∀ i, (addD c i l).length = l.length := by
  induction l with
  | nil => intro i; rfl
  | cons r l ih => intro i; simp [addD, ih]
theorem addD_FR {n : Nat} {c : Int} (hc : 0 ≤ c ∧ c ≤ 10006) (l : List (List Int)) : ∀ i, (∀ q ∈ l, FR n q) → ∀ q ∈ addD c i l, FR n q := by
  induction l with
  | nil => intro i _ q hq; simp [addD] at hq
  | cons r l ih =>
    intro i h q hq
    simp only [addD, List.mem_cons] at hq
    rcases hq with rfl | hq
    · have := (h r (by simp)).rd i
      exact (h r (by simp)).set i (tm_range (by omega))
    · exact ih (i + 1) (fun q hq => h q (by simp [hq])) q hq
theorem addD_FM {n : Nat} {c : Int} (hc : 0 ≤ c ∧ c ≤ 10006) {l : List (List Int)} (h : FM n l) : FM n (addD c 0 l) := ⟨by rw [addD_length]; exact h.1, addD_FR hc l 0 h.2⟩
theorem rd_zeros (n i : Nat) : rd (List.replicate n (0 : Int)) (i : Int) = 0 := by
  simp only [rd, Int.toNat_natCast, List.getD_eq_getElem?_getD, List.getElem?_replicate]
  split <;> rfl
theorem axpy_zeros (v : Int) (n m : Nat) (d : Nat) : ∀ j, axpy v (List.replicate m 0) j d (List.replicate n 0) = List.replicate n 0 := by
  induction d with
  | zero => intro j; rfl
  | succ d ih =>
    intro j
    simp only [axpy, rd_zeros, Int.mul_zero, Int.add_zero, Int.zero_tmod, List.set_replicate_self]
    exact ih (j + 1)
theorem FM.zeros (n : Nat) : FM n (List.replicate n (List.replicate n 0)) := ⟨by simp, fun q hq => by rw [(List.mem_replicate.1 hq).2]; exact FR.zeros n⟩
theorem rdl_zeros {n i : Nat} (h : i < n) : rdl (List.replicate n (List.replicate n (0 : Int))) (i : Int) = List.replicate n 0 := by
  have := rdl_mem (List.replicate n (List.replicate n (0 : Int))) i (by simpa using h)
  exact (List.mem_replicate.1 this).2
theorem mulRow_zeros (q : List Int) (n : Nat) (d : Nat) : ∀ k, k + d = n → mulRow (List.replicate n (List.replicate n 0)) q n k d (List.replicate n 0) = List.replicate n 0 := by
  induction d with
  | zero => intro k _; rfl
  | succ d ih =>
    intro k hk
    rw [mulRow, rdl_zeros (by omega), axpy_zeros]
    simp only [ite_self]
    exact ih (k + 1) (by omega)
theorem timesM_zeros {n : Nat} {a : List (List Int)} (h : a.length = n) : timesM n a (List.replicate n (List.replicate n 0)) = List.replicate n (List.replicate n 0) := by
  refine List.eq_replicate_iff.2 ⟨by simp [timesM, h], fun q hq => ?_⟩
  obtain ⟨p, _, rfl⟩ := List.mem_map.1 hq
  exact mulRow_zeros p n n 0 (by omega)
def cfM (t : List (List Int)) (k : Int) : Int := inF (-((diag t 0).tmod 10007) * invM k)
theorem cfM_range (t : List (List Int)) (k : Int) : 0 ≤ cfM t k ∧ cfM t k ≤ 10006 := inF_range _
/-- d steps from step k on: the coefficients so far, the matrix so far. -/
def charGo (a : List (List Int)) (n : Nat) : Nat → Nat → List Int → List (List Int) → List Int
  | 0, _, out, _ => out
  | d + 1, k, out, now => charGo a n d (k + 1) (out.set (n - k) (cfM (timesM n a now) (k : Int))) (addD (cfM (timesM n a now) (k : Int)) 0 (timesM n a now))
theorem charGo_length (a : List (List Int)) (n : Nat) (d : Nat) : ∀ k out now, (charGo a n d k out now).length = out.length := by
  induction d with
  | zero => intro k out now; rfl
  | succ d ih => intro k out now; rw [charGo, ih, List.length_set]
def charM (a : List (List Int)) : List Int × Int :=
  if fieldB a = true then (charGo a a.length a.length 1 ((List.replicate (a.length + 1) 0).set a.length 1) (addD 1 0 (List.replicate a.length (List.replicate a.length 0))), 0) else ([], 1)
theorem charM_length (a : List (List Int)) : (charM a).1.length ≤ 29 := by
  unfold charM
  split
  · rename_i h
    have := (fieldB_iff.1 h).2.1
    rw [charGo_length]
    simp
    omega
  · simp
theorem FM_fieldB {n : Nat} {l : List (List Int)} (h1 : 1 ≤ n) (h2 : n ≤ 28) (h : FM n l) : fieldB l = true := by
  obtain ⟨e, h⟩ := h
  exact fieldB_iff.2 ⟨by omega, by omega, fun q hq => by rw [e]; exact h q hq⟩
theorem diag_nonneg (l : List (List Int)) : ∀ i, (∀ q ∈ l, ∀ x ∈ q, 0 ≤ x ∧ x ≤ 10006) → 0 ≤ diag l i := by
  induction l with
  | nil => intro i _; simp [diag]
  | cons r l ih =>
    intro i h
    rw [diag]
    have h1 := rd_range (h r (by simp)) i
    have h2 := ih (i + 1) (fun q hq => h q (by simp [hq]))
    omega
end Go.Proofs.Ytifmdgffimckgaa.Lib
