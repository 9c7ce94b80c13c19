/- Ranks modulo a prime: models of the two eliminations; two rows exchanged, which may be one. -/
import Derived.Test.YtcbomfkimohlfaaLibMx
set_option linter.unusedVariables false
set_option linter.unusedSimpArgs false
namespace Go.Proofs.Ytcbomfkimohlfaa.LibRk
open Go.RowKit Go.Proofs.YtcbomfkimohlfaaW.PrintWords Go.Proofs.Ytcbomfkimohlfaa.LibMx
variable {I IS : TypeId} {W : World} {base n cap : Nat} {ok : Nat → Prop} {ad : Addr} {xs : List (List Int)}
namespace rk
open iv
def sr (p : Int) : Nat → Int → Int → Option Int
  | 0, _, _ => none
  | k + 1, x, v => if Int.tmod (wrap64 (v * x)) p = 1 then some v else sr p k x (wrap64 (v + 1))
def elS (p f : Int) (r o : List Int) : List Int := List.zipWith (fun v u => Int.tmod (wrap64 (Int.tmod (wrap64 (v - wrap64 (f * u))) p + p)) p) r o
def rowsS (p v c : Int) (o : List Int) : Nat → Int → LL → LL
  | 0, _, L => L
  | n + 1, i, L => rowsS p v c o n (i + 1) (L.set i.toNat (elS p (Int.tmod (wrap64 (gt L i c * v)) p) (L.getD i.toNat []) o))
def goS2 (p : Int) (s : Int → Option Int) (m : Nat) (nx : Int → Int → LL → Option Int) (c rank : Int) (L : LL) : Option Int :=
  (s (gt L rank c)).bind fun v => nx (c + 1) (rank + 1) (rowsS p v c (L.getD rank.toNat []) (m - (rank.toNat + 1)) (rank + 1) L)
def goS (p : Int) (s : Int → Option Int) (m : Nat) : Nat → Int → Int → LL → Option Int
  | 0, _, rank, _ => some rank
  | n + 1, c, rank, L => if piv c (m - rank.toNat) rank L = (m : Int) then goS p s m n (c + 1) rank L else goS2 p s m (goS p s m n) c rank (swp L (piv c (m - rank.toNat) rank L) rank)
def el1 (p f x o : Int) : Nat → Int → LL → LL
  | 0, _, L => L
  | n + 1, y, L => el1 p f x o n (y + 1) (pt L x y (Int.tmod (wrap64 (gt L x y + wrap64 (wrap64 (p - f) * gt L o y))) p))
def rowsI (p v c o : Int) (m : Nat) : Nat → Int → LL → LL
  | 0, _, L => L
  | n + 1, i, L => rowsI p v c o m n (i + 1) (el1 p (Int.tmod (wrap64 (gt L i c * v)) p) i o m 0 L)
def goI2 (p : Int) (s : Int → Option Int) (m : Nat) (nx : Int → Int → LL → Option Int) (c rank : Int) (L : LL) : Option Int :=
  (s (gt L rank c)).bind fun v => nx (c + 1) (rank + 1) (rowsI p v c rank m (m - (rank.toNat + 1)) (rank + 1) L)
def goI (p : Int) (s : Int → Option Int) (m : Nat) : Nat → Int → Int → LL → Option Int
  | 0, _, rank, _ => some rank
  | n + 1, c, rank, L => if piv c (m - rank.toNat) rank L = (m : Int) then goI p s m n (c + 1) rank L else goI2 p s m (goI p s m n) c rank (swp L rank (piv c (m - rank.toNat) rank L))
theorem sr_mono (p : Int) : ∀ (k : Nat) (x v : Int), LeO (sr p k x v) (sr p (k + 1) x v)
  | 0, x, v => fun r h => by simp [sr] at h
  | k + 1, x, v => by
    unfold sr
    exact LeO.ite (LeO.refl _) (sr_mono p k x _)
theorem goS_mono (p : Int) (s s' : Int → Option Int) (m : Nat) (h : ∀ x, LeO (s x) (s' x)) : ∀ (n : Nat) (c rank : Int) (L : LL), LeO (goS p s m n c rank L) (goS p s' m n c rank L)
  | 0, _, _, _ => LeO.refl _
  | n + 1, c, rank, L => by
    unfold goS goS2
    exact LeO.ite (goS_mono p s s' m h n _ _ _) (LeO.bind (h _) (fun _ => goS_mono p s s' m h n _ _ _))
theorem goI_mono (p : Int) (s s' : Int → Option Int) (m : Nat) (h : ∀ x, LeO (s x) (s' x)) : ∀ (n : Nat) (c rank : Int) (L : LL), LeO (goI p s m n c rank L) (goI p s' m n c rank L)
  | 0, _, _, _ => LeO.refl _
  | n + 1, c, rank, L => by
    unfold goI goI2
    exact LeO.ite (goI_mono p s s' m h n _ _ _) (LeO.bind (h _) (fun _ => goI_mono p s s' m h n _ _ _))
theorem elS_len (p f : Int) (r o : List Int) (h : o.length = r.length) : (elS p f r o).length = r.length := by simp [elS, h]
theorem elS_take (p f : Int) (r o : List Int) (y : Int) (h0 : 0 ≤ y) (h1 : y.toNat < r.length) (h2 : y.toNat < o.length) : (elS p f r o).take y.toNat ++ [Int.tmod (wrap64 (Int.tmod (wrap64 (rd r y - wrap64 (f * rd o y))) p + p)) p] = (elS p f r o).take (y + 1).toNat := by
  rw [show (y + 1).toNat = y.toNat + 1 by omega, List.take_add_one]
  congr 1
  unfold elS rd
  rw [List.getElem?_zipWith, List.getD_eq_getElem?_getD, List.getD_eq_getElem?_getD, List.getElem?_eq_getElem h1, List.getElem?_eq_getElem h2]
  rfl
/-- The rows of a count of colourings. -/
def rows (st : List Int → Option (List Int)) (p : Int) (m : Nat) : Nat → Int → LL → Option LL
  | 0, _, L => some L
  | n + 1, x, L => (st ((List.replicate m (0 : Int)).set x.toNat 1)).bind fun own => if own.length = m then rows st p m n (x + 1) (L ++ [own.set x.toNat (Int.tmod (wrap64 (wrap64 (rd own x + p) - 1)) p)]) else none
theorem rows_mono (st st' : List Int → Option (List Int)) (p : Int) (m : Nat) (h : ∀ x, LeO (st x) (st' x)) : ∀ (n : Nat) (x : Int) (L : LL), LeO (rows st p m n x L) (rows st' p m n x L)
  | 0, _, _ => LeO.refl _
  | n + 1, x, L => by
    unfold rows
    exact LeO.bind (h _) (fun _ => LeO.ite (rows_mono st st' p m h n _ _) (LeO.refl _))
theorem rows_len (st : List Int → Option (List Int)) (p : Int) (m : Nat) : ∀ (n : Nat) (x : Int) (L R : LL), rows st p m n x L = some R → R.length = L.length + n
  | 0, _, L, R, h => by simp only [rows, Option.some.injEq] at h; subst h; rfl
  | n + 1, x, L, R, h => by
    unfold rows at h
    obtain ⟨own, _, h⟩ := Option.bind_eq_some_iff.mp h
    split at h
    · have := rows_len st p m n _ _ _ h; simp at this; omega
    · cases h
end rk
/-- A cell stored with what it holds. -/
theorem set_same {G t : Nat} {cells : Array Value} (hb : W.heap[G]? = some (.cells cells t (0, 0))) {i : Nat} {u : Value} (hc : W.cell? ⟨G, i, none⟩ = some u) : ∀ k : Nat, (W.setCell ⟨G, i, none⟩ u).heap[k]? = W.heap[k]? := by
  intro k
  by_cases e : k = G
  · subst e
    rw [hb, blk_set hb i u]
    have h := (blk_cell hb i).symm.trans hc
    congr 2
    apply Array.ext_getElem?
    intro j
    rw [Array.getElem?_setIfInBounds]
    by_cases e2 : i = j
    · subst e2
      rw [if_pos rfl]
      split
      · exact h.symm
      · rw [Array.getElem?_eq_none (by omega)]
    · rw [if_neg e2]
  · exact Below.heap_setCell W ⟨G, i, none⟩ u k e
/-- Rows i and j exchanged, which may be one. -/
theorem mx_swap2 {G : Nat} (h : Mx I IS W base ok (.slice (some ⟨G, 0, none⟩) n cap) xs) (i j : Nat) (hi : i < n) (hj : j < n) :
    ∃ vi vj : Value, W.cell? ⟨G, i, none⟩ = some vi ∧ W.cell? ⟨G, j, none⟩ = some vj ∧ W.frozen? ⟨G, i, none⟩ = false ∧ W.frozen? ⟨G, j, none⟩ = false ∧ base ≤ G ∧
      (W.setCell ⟨G, i, none⟩ vj).cell? ⟨G, j, none⟩ = some vj ∧ (W.setCell ⟨G, i, none⟩ vj).frozen? ⟨G, j, none⟩ = false ∧
      Mx I IS ((W.setCell ⟨G, i, none⟩ vj).setCell ⟨G, j, none⟩ vi) base ok (.slice (some ⟨G, 0, none⟩) n cap) ((xs.set i (xs.getD j [])).set j (xs.getD i [])) ∧
      ((W.setCell ⟨G, i, none⟩ vj).setCell ⟨G, j, none⟩ vi).cell? ⟨G, j, none⟩ = some vi := by
  obtain ⟨cells, hb⟩ := mx_block h (by omega)
  by_cases hij : i = j
  · subst hij
    obtain ⟨gr, cr, hz, hf, hbG⟩ : ∃ (v : Value) (b : Bool), W.cell? ⟨G, i, none⟩ = some v ∧ W.frozen? ⟨G, i, none⟩ = false ∧ base ≤ G := by
      obtain ⟨oki, c, hcl, hM, hcc, _, _⟩ := Kd.S_borrow h [] (i : Int) (by omega) (by omega)
      obtain ⟨_, _, _, _, hfr⟩ := Kd.R_elem (Kd.S_R h) [] (i : Int) (by omega) (by omega)
      obtain ⟨ve, rfl, _⟩ := hM
      have hv := hcc 0 _ rfl
      rw [Nat.add_zero, show (Kd.slice I (Kd.int .i64)).sz = 1 from rfl, Nat.mul_one, add_plain, Int.toNat_natCast] at hv
      exact ⟨ve, true, hv, blk_frozen hb i, Kd.R_base (Kd.S_R h) G rfl⟩
    have e1 := set_same hb hz
    have hb1 := (e1 G).trans hb
    have hz1 := blk_self hb hz (v := gr)
    have e2 := set_same hb1 hz1
    refine ⟨gr, gr, hz, hz, hf, hf, hbG, hz1, blk_frozen hb1 i, ?_, blk_self hb1 hz1⟩
    have hx : (xs.set i (xs.getD i [])).set i (xs.getD i []) = xs := by
      have hl : i < xs.length := by rw [← mx_len h]; exact hi
      rw [List.getD_eq_getElem?_getD, List.getElem?_eq_getElem hl]
      simp
    rw [hx]
    exact Kd.S_move h (fun k _ => (e2 k).trans (e1 k))
  · obtain ⟨vi, vj, a1, a2, a3, a4, a5, a6, a7, a8⟩ := mx_swap h i j hi hj hij
    exact ⟨vi, vj, a1, a2, a3, a4, a5, a6, a7, a8, blk_self (blk_set hb i vj) a6⟩
end Go.Proofs.Ytcbomfkimohlfaa.LibRk
