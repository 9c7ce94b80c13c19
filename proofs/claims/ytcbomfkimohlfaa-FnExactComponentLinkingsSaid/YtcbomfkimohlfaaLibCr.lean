/- Crossings of strands, counted: models of both ways. -/
import Derived.Test.YtcbomfkimohlfaaLibMx
set_option linter.unusedVariables false
set_option linter.unusedSimpArgs false
namespace Go.Proofs.Ytcbomfkimohlfaa.LibCr
open Go.RowKit Go.Proofs.YtcbomfkimohlfaaW.PrintWords Go.Proofs.Ytcbomfkimohlfaa.LibMx
namespace cr
open iv
def K (z : Int) : Int := if z < 0 then wrap64 (-z) else z
def sg (z : Int) : Int := if z < 0 then -1 else 1
def good (l : List Int) : Prop := l.length ≤ 200 ∧ ∀ z ∈ l, 1 ≤ K z ∧ K z ≤ 7
instance (l : List Int) : Decidable (good l) := by unfold good; infer_instance
def fill : Nat → List Int
  | 0 => List.replicate 8 0
  | k + 1 => (fill k).set k (k : Int)
/-- The strands behind a letter. -/
def sw (xs : List Int) (z : Int) : List Int := (xs.set (K z - 1).toNat (rd xs (K z))).set (K z).toNat (rd xs (K z - 1))
/-- One number of the table of 64. -/
def ad (T : List Int) (x y s : Int) : List Int := T.set (x.toNat * 8 + y.toNat) (wrap64 (T.getD (x.toNat * 8 + y.toNat) 0 + s))
def stT (xs T : List Int) (z : Int) : List Int := ad (ad T (rd xs (K z - 1)) (rd xs (K z)) (sg z)) (rd xs (K z)) (rd xs (K z - 1)) (sg z)
def runT : List Int → List Int → List Int → List Int
  | [], _, T => T
  | z :: l, xs, T => runT l (sw xs z) (stT xs T z)
theorem runT_len : ∀ (l xs T : List Int), T.length = 64 → (runT l xs T).length = 64
  | [], _, _, h => h
  | z :: l, xs, T, h => runT_len l _ _ (by simp only [stT, ad, List.length_set]; exact h)
def In8 (xs : List Int) : Prop := xs.length = 8 ∧ ∀ v ∈ xs, 0 ≤ v ∧ v ≤ 7
theorem In8.set {xs : List Int} (h : In8 xs) (i : Nat) {v : Int} (hv : 0 ≤ v ∧ v ≤ 7) : In8 (xs.set i v) := ⟨by rw [List.length_set]; exact h.1, fun y hy => by
  rcases List.mem_or_eq_of_mem_set hy with h1 | rfl
  · exact h.2 y h1
  · exact hv⟩
theorem In8.at_ {xs : List Int} (h : In8 xs) {x : Int} (h0 : 0 ≤ x) (h1 : x < 8) : 0 ≤ rd xs x ∧ rd xs x ≤ 7 := by
  have hx : x.toNat < xs.length := by rw [h.1]; omega
  refine h.2 _ ?_
  simp [rd, List.getD_eq_getElem?_getD, hx]
theorem In8.sw {xs : List Int} (h : In8 xs) {z : Int} (hz : 1 ≤ K z ∧ K z ≤ 7) : In8 (sw xs z) := by
  unfold cr.sw
  exact (h.set _ (h.at_ (by omega) (by omega))).set _ (h.at_ (by omega) (by omega))
theorem fill_in : ∀ k, k ≤ 8 → In8 (fill k)
  | 0, _ => ⟨rfl, fun v hv => by have := (List.mem_replicate.1 hv).2; omega⟩
  | k + 1, h => (fill_in k (by omega)).set k (by omega)
theorem ad_len (T : List Int) (x y s : Int) : (ad T x y s).length = T.length := by simp [ad]
theorem stT_len (xs T : List Int) (z : Int) : (stT xs T z).length = T.length := by simp [stT, ad_len]
theorem drop_cons (l : List Int) (i : Int) (h0 : 0 ≤ i) (h1 : i < l.length) : l.drop i.toNat = rd l i :: l.drop (i + 1).toNat := by
  rw [show (i + 1).toNat = i.toNat + 1 by omega, List.drop_eq_getElem_cons (by omega)]
  congr 1
  unfold rd
  rw [List.getD_eq_getElem?_getD, List.getElem?_eq_getElem (by omega)]
  rfl
theorem good.at_ {l : List Int} (h : good l) (i : Int) (h0 : 0 ≤ i) (h1 : i < l.length) : 1 ≤ K (rd l i) ∧ K (rd l i) ≤ 7 := by
  refine h.2 _ ?_
  unfold rd
  rw [List.getD_eq_getElem?_getD, List.getElem?_eq_getElem (by omega)]
  exact List.getElem_mem _
/-- Rows of a table of 64, halved. -/
def rowH (T : List Int) (n : Nat) (x : Nat) : List Int := (List.range n).map fun y => wrap64 (Int.tdiv (T.getD (x * 8 + y) 0) 2)
def tabH (T : List Int) (n : Nat) : List (List Int) := (List.range n).map (rowH T n)
theorem rowH_len (T : List Int) (n x : Nat) : (rowH T n x).length = n := by simp [rowH]
theorem tabH_len (T : List Int) (n : Nat) : (tabH T n).length = n := by simp [tabH]
theorem rowH_take (T : List Int) (n x : Nat) (y : Int) (h0 : 0 ≤ y) (h1 : y < n) : (rowH T n x).take y.toNat ++ [wrap64 (Int.tdiv (T.getD (x * 8 + y.toNat) 0) 2)] = (rowH T n x).take (y + 1).toNat := by
  have hl : y.toNat < n := by omega
  rw [show (y + 1).toNat = y.toNat + 1 by omega, List.take_add_one]
  congr 1
  unfold rowH
  rw [List.getElem?_map, List.getElem?_range hl]
  rfl
theorem tabH_take (T : List Int) (n : Nat) (x : Int) (h0 : 0 ≤ x) (h1 : x < n) : (tabH T n).take x.toNat ++ [rowH T n x.toNat] = (tabH T n).take (x + 1).toNat := by
  have hl : x.toNat < n := by omega
  rw [show (x + 1).toNat = x.toNat + 1 by omega, List.take_add_one]
  congr 1
  unfold tabH
  rw [List.getElem?_map, List.getElem?_range hl]
  rfl
/-- One number of the rows. -/
def adR (L : LL) (x y s : Int) : LL := pt L x y (wrap64 (gt L x y + s))
def stR (xs : List Int) (L : LL) (z : Int) : LL := adR (adR L (rd xs (K z - 1)) (rd xs (K z)) (sg z)) (rd xs (K z)) (rd xs (K z - 1)) (sg z)
def runR : List Int → List Int → LL → LL
  | [], _, L => L
  | z :: l, xs, L => runR l (sw xs z) (stR xs L z)
def InN (n : Nat) (xs : List Int) : Prop := xs.length = n ∧ ∀ v ∈ xs, 0 ≤ v ∧ v < n
instance (n : Nat) (xs : List Int) : Decidable (InN n xs) := by unfold InN; infer_instance
def goodN (n : Nat) (l : List Int) : Prop := good l ∧ ∀ z ∈ l, K z < n
instance (n : Nat) (l : List Int) : Decidable (goodN n l) := by unfold goodN; infer_instance
theorem goodN.lt {n : Nat} {l : List Int} (h : goodN n l) (i : Int) (h0 : 0 ≤ i) (h1 : i < l.length) : K (rd l i) < n := by
  refine h.2 _ ?_
  unfold rd
  rw [List.getD_eq_getElem?_getD, List.getElem?_eq_getElem (by omega)]
  exact List.getElem_mem _
theorem InN.at_ {n : Nat} {xs : List Int} (h : InN n xs) {x : Int} (h0 : 0 ≤ x) (h1 : x < n) : 0 ≤ rd xs x ∧ rd xs x < n := by
  have hx : x.toNat < xs.length := by rw [h.1]; omega
  refine h.2 _ ?_
  simp [rd, List.getD_eq_getElem?_getD, hx]
theorem InN.set {n : Nat} {xs : List Int} (h : InN n xs) (i : Nat) {v : Int} (hv : 0 ≤ v ∧ v < n) : InN n (xs.set i v) := ⟨by rw [List.length_set]; exact h.1, fun y hy => by
  rcases List.mem_or_eq_of_mem_set hy with h1 | rfl
  · exact h.2 y h1
  · exact hv⟩
theorem InN.sw {n : Nat} {xs : List Int} (h : InN n xs) {z : Int} (hz : 1 ≤ K z ∧ K z < n) : InN n (sw xs z) := by
  unfold cr.sw
  exact (h.set _ (h.at_ (by omega) (by omega))).set _ (h.at_ (by omega) (by omega))
theorem adR_Sq {n : Nat} {L : LL} (h : Sq n L) (x y s : Int) (h0 : 0 ≤ x) (h1 : x < n) : Sq n (adR L x y s) := h.pt _ _ _ h0 h1
theorem mx_K {z : Int} (h : 1 ≤ K z ∧ K z ≤ 7) : mx z (wrap64 (-z)) = K z := by
  unfold K at *
  unfold mx
  split at h
  · rename_i e
    rw [if_pos e]
    split <;> omega
  · rename_i e
    rw [if_neg e]
    have : wrap64 (-z) = -z := by unfold wrap64; omega
    rw [this]
    split <;> omega
/-- Numbers in place, halved. -/
def hv (x : Int) : Nat → Int → LL → LL
  | 0, _, L => L
  | n + 1, y, L => hv x n (y + 1) (pt L x y (wrap64 (Int.tdiv (gt L x y) 2)))
def hvs (m : Nat) : Nat → Int → LL → LL
  | 0, _, L => L
  | n + 1, x, L => hvs m n (x + 1) (hv x m 0 L)
end cr
end Go.Proofs.Ytcbomfkimohlfaa.LibCr
