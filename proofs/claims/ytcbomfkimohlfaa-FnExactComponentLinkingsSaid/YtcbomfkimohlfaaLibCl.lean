/- Linking numbers of components: models of both ways. -/
import Derived.Test.YtcbomfkimohlfaaLibCr
set_option linter.unusedVariables false
set_option linter.unusedSimpArgs false
namespace Go.Proofs.Ytcbomfkimohlfaa.LibCl
open Go.RowKit Go.Proofs.YtcbomfkimohlfaaW.PrintWords Go.Proofs.Ytcbomfkimohlfaa.LibMx Go.Proofs.Ytcbomfkimohlfaa.LibCr
namespace cl
open iv
def y1 (T W : List Int) (x : Int) : Nat → Int → List Int → List Int
  | 0, _, r => r
  | n + 1, y, r => y1 T W x n (y + 1) (r.set (rd W y).toNat (wrap64 (rd r (rd W y) + T.getD (x.toNat * 8 + y.toNat) 0)))
def x1 (T W : List Int) (k : Int) (m : Nat) : Nat → Int → List Int → List Int
  | 0, _, r => r
  | n + 1, x, r => if rd W x = k then x1 T W k m n (x + 1) (y1 T W x m 0 r) else x1 T W k m n (x + 1) r
def hal : Nat → Int → List Int → List Int
  | 0, _, r => r
  | n + 1, j, r => hal n (j + 1) (r.set j.toNat (wrap64 (Int.tdiv (rd r j) 2)))
def rowOf (T W : List Int) (m c : Nat) (k : Nat) : List Int := hal c 0 (x1 T W (k : Int) m m 0 (List.replicate c 0))
def tab (T W : List Int) (m c : Nat) : List (List Int) := (List.range c).map (rowOf T W m c)
def okW (m c : Nat) (W : List Int) : Prop := W.length = 8 ∧ ∀ y : Nat, y < m → 0 ≤ rd W (y : Int) ∧ rd W (y : Int) < (c : Int)
instance (m c : Nat) (W : List Int) : Decidable (okW m c W) := by unfold okW; infer_instance
theorem okW.at_ {m c : Nat} {W : List Int} (h : okW m c W) (y : Int) (h0 : 0 ≤ y) (h1 : y < m) : 0 ≤ rd W y ∧ rd W y < (c : Int) := by
  have := h.2 y.toNat (by omega)
  rw [show ((y.toNat : Nat) : Int) = y by omega] at this
  exact this
theorem y1_len (T W : List Int) (x : Int) : ∀ (n : Nat) (y : Int) (r : List Int), (y1 T W x n y r).length = r.length
  | 0, _, _ => rfl
  | n + 1, y, r => by unfold y1; rw [y1_len T W x n, List.length_set]
theorem x1_len (T W : List Int) (k : Int) (m : Nat) : ∀ (n : Nat) (x : Int) (r : List Int), (x1 T W k m n x r).length = r.length
  | 0, _, _ => rfl
  | n + 1, x, r => by
    unfold x1
    split
    · rw [x1_len T W k m n, y1_len]
    · rw [x1_len T W k m n]
theorem hal_len : ∀ (n : Nat) (j : Int) (r : List Int), (hal n j r).length = r.length
  | 0, _, _ => rfl
  | n + 1, j, r => by unfold hal; rw [hal_len n, List.length_set]
theorem rowOf_len (T W : List Int) (m c k : Nat) : (rowOf T W m c k).length = c := by
  unfold rowOf
  rw [hal_len, x1_len, List.length_replicate]
theorem tab_len (T W : List Int) (m c : Nat) : (tab T W m c).length = c := by simp [tab]
theorem tab_take (T W : List Int) (m c : Nat) (k : Int) (h0 : 0 ≤ k) (h1 : k < c) : (tab T W m c).take k.toNat ++ [rowOf T W m c k.toNat] = (tab T W m c).take (k + 1).toNat := by
  have hl : k.toNat < c := by omega
  rw [show (k + 1).toNat = k.toNat + 1 by omega, List.take_add_one]
  congr 1
  unfold tab
  rw [List.getElem?_map, List.getElem?_range hl]
  rfl
-- the program's
def ly (C : LL) (i k x : Int) : List Int → LL → LL
  | [], L => L
  | y :: ys, L => ly C i k x ys (pt L i k (wrap64 (gt L i k + gt C x y)))
def lx (C : LL) (i k : Int) (two : List Int) : List Int → LL → LL
  | [], L => L
  | x :: xs, L => lx C i k two xs (ly C i k x two L)
def lk (C O : LL) (i : Int) (one : List Int) : Nat → Int → LL → LL
  | 0, _, L => L
  | n + 1, k, L => lk C O i one n (k + 1) (pt (lx C i k (O.getD k.toNat []) one L) i k (wrap64 (Int.tdiv (gt (lx C i k (O.getD k.toNat []) one L) i k) 2)))
def li (C O : LL) (c : Nat) : Nat → Int → LL → LL
  | 0, _, L => L
  | n + 1, i, L => li C O c n (i + 1) (lk C O i (O.getD i.toNat []) c 0 L)
def okO (m : Nat) (O : LL) : Prop := ∀ q ∈ O, q.length ≤ 8 ∧ ∀ x ∈ q, 0 ≤ x ∧ x < (m : Int)
instance (m : Nat) (O : LL) : Decidable (okO m O) := by unfold okO; infer_instance
end cl
end Go.Proofs.Ytcbomfkimohlfaa.LibCl
