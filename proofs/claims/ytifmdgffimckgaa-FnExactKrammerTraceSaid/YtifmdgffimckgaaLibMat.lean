/- Rows of field numbers: plain words on the product. -/
import Derived.Test.YtifmdgffimckgaaLibRows
set_option linter.unusedVariables false
namespace Go.Proofs.Ytifmdgffimckgaa.Lib
open Go.RowKit Go.Proofs.YtifmdgffimckgaaW.PrintWords
def FR (n : Nat) (q : List Int) : Prop := q.length = n ∧ ∀ x ∈ q, 0 ≤ x ∧ x ≤ 10006
theorem FR.rd {n : Nat} {q : List Int} (h : FR n q) (i : Nat) : 0 ≤ rd q (i : Int) ∧ rd q (i : Int) ≤ 10006 := rd_range h.2 i
theorem FR.zeros (n : Nat) : FR n (List.replicate n 0) := ⟨by simp, fun x hx => by have := (List.mem_replicate.1 hx).2; omega⟩
theorem fm_bound {a v b : Int} (ha : 0 ≤ a ∧ a ≤ 10006) (hv : 0 ≤ v ∧ v ≤ 10006) (hb : 0 ≤ b ∧ b ≤ 10006) : 0 ≤ v * b ∧ v * b ≤ 100120036 :=
  ⟨Int.mul_nonneg hv.1 hb.1, Int.le_trans (Int.mul_le_mul hv.2 hb.2 hb.1 (by omega)) (by omega)⟩
theorem tm_range {x : Int} (h : 0 ≤ x) : 0 ≤ x.tmod 10007 ∧ x.tmod 10007 ≤ 10006 := by
  rw [Int.tmod_eq_emod_of_nonneg h]
  omega
theorem FR.set {n : Nat} {q : List Int} (h : FR n q) (j : Nat) {x : Int} (hx : 0 ≤ x ∧ x ≤ 10006) : FR n (q.set j x) :=
  ⟨by rw [List.length_set]; exact h.1, fun y hy => by
    rcases List.mem_or_eq_of_mem_set hy with h1 | rfl
    · exact h.2 y h1
    · exact hx⟩
/-- v times r, added to a row, from place j on, d places. -/
def axpy (v : Int) (r : List Int) : Nat → Nat → List Int → List Int
  | _, 0, acc => acc
  | j, d + 1, acc => axpy v r (j + 1) d (acc.set j ((rd acc (j : Int) + v * rd r (j : Int)).tmod 10007))
theorem axpy_FR {v : Int} {r : List Int} {n : Nat} (hv : 0 ≤ v ∧ v ≤ 10006) (hr : FR n r) (d : Nat) : ∀ (j : Nat) (acc : List Int), FR n acc → FR n (axpy v r j d acc) := by
  induction d with
  | zero => intro j acc h; exact h
  | succ d ih =>
    intro j acc h
    have h1 := h.rd j
    have h2 := fm_bound h1 hv (hr.rd j)
    exact ih (j + 1) _ (h.set j (tm_range (by omega)))
/-- A row times a matrix, from place k on, d places. -/
def mulRow (b : List (List Int)) (q : List Int) (n : Nat) : Nat → Nat → List Int → List Int
  | _, 0, acc => acc
  | k, d + 1, acc => mulRow b q n (k + 1) d (if rd q (k : Int) = 0 then acc else axpy (rd q (k : Int)) (rdl b (k : Int)) 0 n acc)
def FM (n : Nat) (l : List (List Int)) : Prop := l.length = n ∧ ∀ q ∈ l, FR n q
theorem FM.rdl {n : Nat} {l : List (List Int)} (h : FM n l) (i : Nat) (hi : i < n) : FR n (rdl l (i : Int)) := h.2 _ (rdl_mem l i (by rw [h.1]; exact hi))
theorem fieldB_FM {l : List (List Int)} (h : fieldB l = true) : 1 ≤ l.length ∧ l.length ≤ 28 ∧ FM l.length l := by
  obtain ⟨h1, h2, h3⟩ := fieldB_iff.1 h
  exact ⟨h1, h2, rfl, h3⟩
theorem mulRow_FR {b : List (List Int)} {q : List Int} {n : Nat} (hb : FM n b) (hq : FR n q) (d : Nat) : ∀ (k : Nat) (acc : List Int), k + d = n → FR n acc → FR n (mulRow b q n k d acc) := by
  induction d with
  | zero => intro k acc _ h; exact h
  | succ d ih =>
    intro k acc hk h
    refine ih (k + 1) _ (by omega) ?_
    split
    · exact h
    · exact axpy_FR (hq.rd k) (hb.rdl k (by omega)) n 0 acc h
def timesM (n : Nat) (a b : List (List Int)) : List (List Int) := a.map fun q => mulRow b q n 0 n (List.replicate n 0)
theorem timesM_FM {n : Nat} {a b : List (List Int)} (ha : FM n a) (hb : FM n b) : FM n (timesM n a b) :=
  ⟨by simp [timesM, ha.1], fun q hq => by
    obtain ⟨p, hp, rfl⟩ := List.mem_map.1 hq
    exact mulRow_FR hb (ha.2 p hp) n 0 _ (by omega) (FR.zeros n)⟩
theorem set_pre2 (p l : List (List Int)) (r q : List Int) (i : Nat) (h : p.length = i) : (p ++ r :: l).set i q = p ++ q :: l := by
  subst h
  simp
def mulMM (a b : List (List Int)) : List (List Int) × Int :=
  if fieldB a = true ∧ fieldB b = true then (if a.length = b.length then (timesM a.length a b, 0) else ([], 2)) else ([], 1)
theorem mulMM_bound (a b : List (List Int)) : (mulMM a b).1.length ≤ 28 ∧ ∀ q ∈ (mulMM a b).1, q.length ≤ 28 := by
  unfold mulMM
  split
  · rename_i h
    split
    · rename_i he
      obtain ⟨h1, h2, h3⟩ := fieldB_FM h.1
      have hb := (fieldB_FM h.2).2.2
      rw [← he] at hb
      have := timesM_FM h3 hb
      exact ⟨by have := this.1; simp only; omega, fun q hq => by have := (this.2 q hq).1; omega⟩
    · simp
  · simp
end Go.Proofs.Ytifmdgffimckgaa.Lib
