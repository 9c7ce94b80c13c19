/- The matrix of Burau's letter sends no vector to 0. -/
import Derived.Test.YtifmdgffimckgaaLibElim
import Derived.Test.YtifmdgffimckgaaLibPi
set_option linter.unusedVariables false
set_option linter.unusedSimpArgs false
namespace Go.Proofs.Ytifmdgffimckgaa.Lib
open Go.RowKit Go.Proofs.YtifmdgffimckgaaW.PrintWords Go.Proofs.Ytifmdgffimckgaa.LibMx Go.Proofs.Ytifmdgffimckgaa.LibPi
namespace inj
open iv
theorem dot_set : ∀ (r v : List Int) (j : Nat) (x : Int), j < r.length → r.length = v.length → dot (r.set j x) v = dot r v + (x - r.getD j 0) * v.getD j 0
  | [], _, j, x, h, _ => by simp at h
  | _ :: _, [], j, x, _, h => by simp at h
  | y :: r, z :: v, 0, x, _, _ => by
    simp only [List.set_cons_zero, dot, List.getD_cons_zero]
    rw [Int.sub_mul]
    omega
  | y :: r, z :: v, j + 1, x, h, hl => by
    simp only [List.set_cons_succ, dot, List.getD_cons_succ]
    rw [dot_set r v j x (by simpa using h) (by simpa using hl)]
    omega
theorem FF.pt {L : LLx} (h : iv2.FF L) (i j v : Int) (hv : 0 ≤ v ∧ v ≤ 10006) : iv2.FF (pt L i j v) := by
  unfold iv.pt
  refine h.set _ fun x hx => ?_
  rcases List.mem_or_eq_of_mem_set hx with h1 | h1
  · exact h.row _ x h1
  · rw [h1]; exact hv
theorem bs_rows {m : Nat} {U : LLx} (hU : Sq m U) (t k : Int) (h0 : 1 ≤ k) (h1 : k < m) (i : Nat) : (pi.bs t k U).getD i [] = if i = k.toNat then ((U.getD i []).set (k - 1).toNat 1).set k.toNat 0 else if i = (k - 1).toNat then ((U.getD i []).set (k - 1).toNat (iv.inF (wrap64 (1 - t)))).set k.toNat t else U.getD i [] := by
  have hl := hU.1
  have hk : k.toNat < m := by omega
  have hk1 : (k - 1).toNat < m := by omega
  have hne : (k - 1).toNat ≠ k.toNat := by omega
  unfold pi.bs iv.pt
  have L1 : ∀ (L : LLx), L.length = m → ∀ (i j v : Int), (L.set i.toNat ((L.getD i.toNat []).set j.toNat v)).length = m := fun L h i j v => by rw [List.length_set]; exact h
  rw [getD_set _ _ _ _ (by simp only [List.length_set]; omega), getD_set _ _ _ _ (by simp only [List.length_set]; omega)]
  by_cases e : i = k.toNat
  · subst e
    simp only [if_true]
    rw [getD_set _ _ _ _ (by simp only [List.length_set]; omega), if_neg hne, getD_set _ _ _ _ (by omega), if_neg hne]
  · rw [if_neg (Ne.symm e), if_neg e, getD_set _ _ _ _ (by simp only [List.length_set]; omega), if_neg (Ne.symm e), getD_set _ _ _ _ (by simp only [List.length_set]; omega)]
    by_cases e2 : i = (k - 1).toNat
    · subst e2
      simp only [if_true]
      rw [getD_set _ _ _ _ (by omega), if_pos rfl]
    · rw [if_neg (Ne.symm e2), if_neg e2, getD_set _ _ _ _ (by omega), if_neg (Ne.symm e2)]
abbrev unitM (m : Nat) : LLx := addD 1 0 (List.replicate m (List.replicate m 0))
theorem unit_row (m i : Nat) (h : i < m) : (unitM m).getD i [] = (List.replicate m (0 : Int)).set i 1 := by
  have := iv2.unit_at m m 0 i h
  rw [Nat.zero_add] at this
  exact this
theorem dot_zeros (m : Nat) (v : List Int) : dot (List.replicate m 0) v = 0 := dot_none _ _ (fun x hx => (List.mem_replicate.1 hx).2)
theorem zeros_at (m j : Nat) : (List.replicate m (0 : Int)).getD j 0 = 0 := by
  rw [List.getD_eq_getElem?_getD, List.getElem?_replicate]
  split <;> rfl
theorem set_at (r : List Int) (j i : Nat) (x : Int) (h : j < r.length) : (r.set j x).getD i 0 = if j = i then x else r.getD i 0 := by
  rw [List.getD_eq_getElem?_getD, List.getElem?_set]
  by_cases e : j = i
  · rw [if_pos e, if_pos h, if_pos e]; rfl
  · rw [if_neg e, if_neg e, ← List.getD_eq_getElem?_getD]
theorem cancel {t x : Int} (ht : 1 ≤ t ∧ t ≤ 10006) (h : P0 (t * x)) : P0 x := by
  have hm := invM_mul ht
  have h4 : P0 (t * invM t - 1) := by
    have := em_dvd (t * invM t)
    rw [hm] at this
    obtain ⟨q, hq⟩ := this
    exact ⟨-q, by omega⟩
  have h5 : P0 ((t * invM t - 1) * x) := Int.dvd_mul_of_dvd_left h4
  have h6 : P0 (invM t * (t * x)) := Int.dvd_mul_of_dvd_right h
  have := Int.dvd_sub h6 h5
  rwa [Int.sub_mul, Int.one_mul, show t * invM t * x = invM t * (t * x) by rw [← Int.mul_assoc, Int.mul_comm (invM t) t], show invM t * (t * x) - (invM t * (t * x) - x) = x by omega] at this
theorem bs_Inj {m : Nat} (t k : Int) (ht : 1 ≤ t ∧ t ≤ 10006) (h0 : 1 ≤ k) (h1 : k < m) : Inj m (pi.bs t k (unitM m)) := by
  intro v hv hd j hj
  have hU := iv2.unit_Sq m
  have hk : k.toNat < m := by omega
  have hk1 : (k - 1).toNat < m := by omega
  have hne : (k - 1).toNat ≠ k.toNat := by omega
  have lz : (List.replicate m (0 : Int)).length = m := by simp
  have a0 : P0 (v.getD (k - 1).toNat 0) := by
    have := hd k.toNat hk
    rw [bs_rows hU t k h0 h1, if_pos rfl, unit_row m _ hk, dot_set _ _ _ _ (by simp; omega) (by simp [hv]), dot_set _ _ _ _ (by simp; omega) (by simp [hv]), dot_set _ _ _ _ (by simp; omega) (by simp [hv]), dot_zeros,
      set_at _ _ _ _ (by simp; omega), if_neg (Ne.symm hne), set_at _ _ _ _ (by simp; omega), if_neg hne, set_at _ _ _ _ (by simp; omega), if_pos rfl, zeros_at, zeros_at] at this
    rwa [show (0 : Int) + (1 - 0) * v.getD k.toNat 0 + (1 - 0) * v.getD (k - 1).toNat 0 + (0 - 1) * v.getD k.toNat 0 = v.getD (k - 1).toNat 0 by omega] at this
  by_cases e : j = (k - 1).toNat
  · rw [e]; exact a0
  by_cases e2 : j = k.toNat
  · rw [e2]
    have := hd (k - 1).toNat hk1
    rw [bs_rows hU t k h0 h1, if_neg hne, if_pos rfl, unit_row m _ hk1, List.set_set, dot_set _ _ _ _ (by simp; omega) (by simp [hv]), dot_set _ _ _ _ (by simp; omega) (by simp [hv]), dot_zeros, set_at _ _ _ _ (by simp; omega), if_neg hne, zeros_at, zeros_at] at this
    obtain ⟨A, hA⟩ : ∃ A, iv.inF (wrap64 (1 - t)) = A := ⟨_, rfl⟩
    rw [hA, show (0 : Int) + (A - 0) * v.getD (k - 1).toNat 0 + (t - 0) * v.getD k.toNat 0 = A * v.getD (k - 1).toNat 0 + t * v.getD k.toNat 0 by rw [Int.sub_zero, Int.sub_zero, Int.zero_add]] at this
    refine cancel ht ?_
    have h3 := Int.dvd_sub this (Int.dvd_mul_of_dvd_right (b := A) a0)
    rwa [show A * v.getD (k - 1).toNat 0 + t * v.getD k.toNat 0 - A * v.getD (k - 1).toNat 0 = t * v.getD k.toNat 0 by omega] at h3
  · have := hd j hj
    rw [bs_rows hU t k h0 h1, if_neg e2, if_neg e, unit_row m _ hj, dot_set _ _ _ _ (by simp; omega) (by simp [hv]), dot_zeros, zeros_at] at this
    rwa [show (0 : Int) + (1 - 0) * v.getD j 0 = v.getD j 0 by omega] at this
theorem unit_FF (m : Nat) : iv2.FF (unitM m) := fun q hq => by
  obtain ⟨i, hi, rfl⟩ := List.getElem_of_mem hq
  have hl := (iv2.unit_Sq m).1
  have h := unit_row m i (by rw [← hl]; exact hi)
  rw [List.getD_eq_getElem?_getD, List.getElem?_eq_getElem hi] at h
  have h2 : (unitM m)[i] = (List.replicate m (0 : Int)).set i 1 := h
  intro x hx
  rw [h2] at hx
  rcases List.mem_or_eq_of_mem_set hx with h1 | h1
  · rw [(List.mem_replicate.1 h1).2]; omega
  · rw [h1]; omega
theorem FM_of {m : Nat} {L : LLx} (h : Sq m L) (hf : iv2.FF L) : FM m L := ⟨h.1, fun q hq => ⟨iv2.Sq_mem h q hq, hf q hq⟩⟩
theorem bs_FM {m : Nat} (t k : Int) (ht : 1 ≤ t ∧ t ≤ 10006) (h0 : 1 ≤ k) (h1 : k < m) : FM m (pi.bs t k (unitM m)) := by
  refine FM_of (pi.bs_Sq (iv2.unit_Sq m) t k h0 h1) ?_
  unfold pi.bs
  exact FF.pt (FF.pt (FF.pt (FF.pt (unit_FF m) _ _ _ (iv2.ivinF_range _)) _ _ _ (by omega)) _ _ _ (by omega)) _ _ _ (by omega)
end inj
end Go.Proofs.Ytifmdgffimckgaa.Lib
