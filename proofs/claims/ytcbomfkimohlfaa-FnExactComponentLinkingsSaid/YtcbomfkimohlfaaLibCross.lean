/- Crossings counted in a table of 64 and in rows: the same numbers. -/
import Derived.Test.YtcbomfkimohlfaaLibPure
import Derived.Test.YtcbomfkimohlfaaLibInv
import Derived.Test.YtcbomfkimohlfaaLibCr
set_option linter.unusedVariables false
set_option linter.unusedSimpArgs false
namespace Go.Proofs.Ytcbomfkimohlfaa.Lib
open Go.RowKit Go.Proofs.YtcbomfkimohlfaaW.PrintWords Go.Proofs.Ytcbomfkimohlfaa.LibMx Go.Proofs.Ytcbomfkimohlfaa.LibCr
namespace crx
open iv
abbrev LLx := List (List Int)
theorem goodN_of {n : Int} {l : List Int} (h : isBraidB n l = true) : cr.goodN n.toNat l := by
  obtain ⟨hn, hl, hx⟩ := isBraidB_iff.1 h
  refine ⟨⟨hl, fun z hz => ?_⟩, fun z hz => ?_⟩
  · have := hx z hz
    unfold cr.K
    split
    · rw [w64 (x := -z) (by omega) (by omega)]; omega
    · omega
  · have := hx z hz
    unfold cr.K
    split
    · rw [w64 (x := -z) (by omega) (by omega)]; omega
    · omega
theorem getD_setI (T : List Int) (p q : Nat) (v : Int) (h : p < T.length) : (T.set p v).getD q 0 = if p = q then v else T.getD q 0 := by
  rw [List.getD_eq_getElem?_getD, List.getElem?_set]
  by_cases e : p = q
  · subst e; rw [if_pos rfl, if_pos h, if_pos rfl]; rfl
  · rw [if_neg e, if_neg e, List.getD_eq_getElem?_getD]
theorem gt_pt {n : Nat} {L : LLx} (hs : Sq n L) (x y v : Int) (hx : 0 ≤ x ∧ x < n) (hy : 0 ≤ y ∧ y < n) (a b : Nat) : gt (pt L x y v) (a : Int) (b : Int) = if x.toNat = a ∧ y.toNat = b then v else gt L (a : Int) (b : Int) := by
  unfold gt pt rd
  simp only [Int.toNat_natCast]
  rw [getD_set L _ _ _ (by rw [hs.1]; omega)]
  by_cases e1 : x.toNat = a
  · rw [if_pos e1]
    subst e1
    rw [getD_setI _ _ _ _ (by rw [hs.2 x.toNat (by omega)]; omega)]
    by_cases e2 : y.toNat = b
    · rw [if_pos e2, if_pos ⟨rfl, e2⟩]
    · rw [if_neg e2, if_neg (fun h => e2 h.2)]
  · rw [if_neg e1, if_neg (fun h => e1 h.1)]
structure Rel (n : Nat) (ys xs T : List Int) (L : LLx) : Prop where
  hy : cr.In8 ys
  hx : cr.InN n xs
  he : ∀ i : Int, 0 ≤ i → i < n → rd ys i = rd xs i
  ht : T.length = 64
  hs : Sq n L
  hc : ∀ a b : Nat, a < n → b < n → T.getD (a * 8 + b) 0 = gt L (a : Int) (b : Int)
theorem ad_rel {n : Nat} (hn : n ≤ 8) {T : List Int} {L : LLx} (ht : T.length = 64) (hs : Sq n L) (hc : ∀ a b : Nat, a < n → b < n → T.getD (a * 8 + b) 0 = gt L (a : Int) (b : Int)) (x y s : Int) (hx : 0 ≤ x ∧ x < n) (hy : 0 ≤ y ∧ y < n) :
    (cr.ad T x y s).length = 64 ∧ Sq n (cr.adR L x y s) ∧ ∀ a b : Nat, a < n → b < n → (cr.ad T x y s).getD (a * 8 + b) 0 = gt (cr.adR L x y s) (a : Int) (b : Int) := by
  refine ⟨by rw [cr.ad_len]; exact ht, cr.adR_Sq hs _ _ _ hx.1 hx.2, fun a b ha hb => ?_⟩
  unfold cr.ad cr.adR
  have h0 := hc x.toNat y.toNat (by omega) (by omega)
  rw [show ((x.toNat : Nat) : Int) = x by omega, show ((y.toNat : Nat) : Int) = y by omega] at h0
  rw [getD_setI _ _ _ _ (by rw [ht]; omega), gt_pt hs x y _ hx hy a b, h0]
  by_cases e : x.toNat * 8 + y.toNat = a * 8 + b
  · rw [if_pos e, if_pos (by omega)]
  · rw [if_neg e, if_neg (by omega)]
    exact hc a b ha hb
theorem rd_setI (xs : List Int) (i : Nat) (v : Int) (j : Int) (h : i < xs.length) : rd (xs.set i v) j = if i = j.toNat then v else rd xs j := by
  unfold rd
  exact getD_setI xs i j.toNat v h
theorem step {n : Nat} (hn : n ≤ 8) {ys xs T : List Int} {L : LLx} (h : Rel n ys xs T L) (z : Int) (hz : 1 ≤ cr.K z ∧ cr.K z ≤ 7) (hzn : cr.K z < n) : Rel n (cr.sw ys z) (cr.sw xs z) (cr.stT ys T z) (cr.stR xs L z) := by
  have e1 := h.he (cr.K z - 1) (by omega) (by omega)
  have e2 := h.he (cr.K z) (by omega) (by omega)
  have r1 := h.hx.at_ (x := cr.K z - 1) (by omega) (by omega)
  have r2 := h.hx.at_ (x := cr.K z) (by omega) (by omega)
  obtain ⟨a1, a2, a3⟩ := ad_rel hn h.ht h.hs h.hc (rd xs (cr.K z - 1)) (rd xs (cr.K z)) (cr.sg z) r1 r2
  obtain ⟨b1, b2, b3⟩ := ad_rel hn a1 a2 a3 (rd xs (cr.K z)) (rd xs (cr.K z - 1)) (cr.sg z) r2 r1
  refine ⟨h.hy.sw hz, h.hx.sw ⟨hz.1, hzn⟩, fun i h0 h1 => ?_, ?_, ?_, ?_⟩
  · unfold cr.sw
    have ly := h.hy.1
    have lx := h.hx.1
    rw [rd_setI _ _ _ _ (by rw [List.length_set]; omega), rd_setI _ _ _ _ (by omega), rd_setI _ _ _ _ (by rw [List.length_set]; omega), rd_setI _ _ _ _ (by omega), e1, e2, h.he i h0 h1]
  · unfold cr.stT; rw [e1, e2]; exact b1
  · unfold cr.stR; exact b2
  · unfold cr.stT cr.stR; rw [e1, e2]; exact b3
theorem run {n : Nat} (hn : n ≤ 8) : ∀ (l ys xs T : List Int) (L : LLx), cr.goodN n l → Rel n ys xs T L → ∃ ys' xs', Rel n ys' xs' (cr.runT l ys T) (cr.runR l xs L)
  | [], ys, xs, T, L, _, h => ⟨ys, xs, h⟩
  | z :: l, ys, xs, T, L, hg, h => by
    unfold cr.runT cr.runR
    exact run hn l _ _ _ _ ⟨⟨by have := hg.1.1; simp at this; omega, fun y hy => hg.1.2 y (by simp [hy])⟩, fun y hy => hg.2 y (by simp [hy])⟩ (step hn h z (hg.1.2 z (by simp)) (hg.2 z (by simp)))
theorem fill_rd : ∀ (k : Nat), k ≤ 8 → ∀ i : Int, 0 ≤ i → i < k → rd (cr.fill k) i = i
  | 0, _, i, h0, h1 => by omega
  | k + 1, hk, i, h0, h1 => by
    unfold cr.fill
    have := (cr.fill_in k (by omega)).1
    rw [rd_setI _ _ _ _ (by omega)]
    split
    · omega
    · exact fill_rd k (by omega) i h0 (by omega)
theorem iota_rd : ∀ (n : Nat) (k i : Int), 0 ≤ i → i < n → rd (iota k n) i = k + i
  | 0, _, _, _, _ => by omega
  | n + 1, k, i, h0, h1 => by
    unfold iota
    by_cases e : i = 0
    · subst e; simp [rd]
    · have := iota_rd n (k + 1) (i - 1) (by omega) (by omega)
      unfold rd at this ⊢
      rw [show i.toNat = (i - 1).toNat + 1 by omega, List.getD_cons_succ, this]; omega
theorem zero_Sq (n : Nat) : Sq n (List.replicate n (List.replicate n 0)) :=
  ⟨by simp, fun i hi => by rw [List.getD_eq_getElem?_getD, List.getElem?_replicate, if_pos hi]; simp⟩
theorem start (n : Nat) (hn : n ≤ 8) : Rel n (cr.fill n) (iota 0 n) (List.replicate 64 0) (List.replicate n (List.replicate n 0)) := by
  refine ⟨cr.fill_in n hn, iota_in n, fun i h0 h1 => ?_, by simp, zero_Sq n, fun a b ha hb => ?_⟩
  · rw [fill_rd n hn i h0 h1, iota_rd n 0 i h0 h1]; omega
  · unfold gt
    rw [List.getD_eq_getElem?_getD, List.getElem?_replicate, if_pos (by omega), Int.toNat_natCast, List.getD_eq_getElem?_getD, List.getElem?_replicate, if_pos ha]
    exact (rd_zeros n b).symm
/-- Halves of a row. -/
def hf (v : Int) : Int := wrap64 (Int.tdiv v 2)
def hvN : Nat → Int → List Int → List Int
  | 0, _, r => r
  | n + 1, y, r => hvN n (y + 1) (r.set y.toNat (hf (rd r y)))
theorem hv_row (x : Int) : ∀ (n : Nat) (y : Int) (L : LLx), x.toNat < L.length → cr.hv x n y L = L.set x.toNat (hvN n y (L.getD x.toNat []))
  | 0, y, L, h => by
    unfold cr.hv hvN
    rw [iv2.getD_lt _ _ h]
    simp
  | n + 1, y, L, h => by
    unfold cr.hv hvN
    rw [hv_row x n (y + 1) _ (by unfold pt; rw [List.length_set]; exact h)]
    unfold pt gt hf
    rw [iv2.set_set_same, getD_set L _ _ _ h, if_pos rfl]
theorem hvN_eq : ∀ (q p : List Int) (y : Int), y = (p.length : Int) → hvN q.length y (p ++ q) = p ++ q.map hf
  | [], p, y, h => by simp [hvN]
  | x :: q, p, y, h => by
    rw [List.length_cons]
    unfold hvN
    rw [iv2.rd_mid' p q x y h, iv2.set_mid p q x _ y h]
    have := hvN_eq q (p ++ [hf x]) (y + 1) (by simp; omega)
    rw [this]
    simp
theorem hv_eq {m : Nat} {L : LLx} (hL : Sq m L) (x : Int) (h0 : 0 ≤ x) (h1 : x < m) : cr.hv x m 0 L = L.set x.toNat ((L.getD x.toNat []).map hf) := by
  rw [hv_row x m 0 L (by rw [hL.1]; omega)]
  have h := hvN_eq (L.getD x.toNat []) [] 0 (by simp)
  rw [hL.at x h0 h1, List.nil_append, List.nil_append] at h
  rw [h]
theorem hvs_eq {m : Nat} : ∀ (q : Nat) (x : Int) (L : LLx), Sq m L → 0 ≤ x → (q : Int) + x = m → cr.hvs m q x L = L.take x.toNat ++ (L.drop x.toNat).map (List.map hf)
  | 0, x, L, hL, h0, h1 => by
    unfold cr.hvs
    rw [List.take_of_length_le (by rw [hL.1]; omega), List.drop_of_length_le (by rw [hL.1]; omega)]
    simp
  | q + 1, x, L, hL, h0, h1 => by
    have hx : x.toNat < L.length := by rw [hL.1]; omega
    unfold cr.hvs
    rw [hv_eq hL x h0 (by omega), hvs_eq q (x + 1) _ (hL.set _ (by omega) (by rw [List.length_map]; exact hL.at x h0 (by omega))) (by omega) (by omega), show (x + 1).toNat = x.toNat + 1 by omega,
      List.drop_eq_getElem_cons hx, List.map_cons, iv2.getD_lt _ _ hx]
    rw [List.take_set, List.drop_set, if_pos (by omega), List.take_add_one, List.getElem?_eq_getElem hx]
    simp only [Option.toList_some]
    rw [List.set_append_right _ _ (by rw [List.length_take]; omega)]
    simp [List.length_take, Nat.min_eq_left (Nat.le_of_lt hx)]
theorem halves {n : Nat} {ys xs T : List Int} {L : LLx} (h : Rel n ys xs T L) : cr.tabH T n = cr.hvs n n 0 L := by
  rw [hvs_eq n 0 L h.hs (by omega) (by omega)]
  simp only [Int.toNat_zero, List.take_zero, List.drop_zero, List.nil_append]
  refine List.ext_getElem (by rw [cr.tabH_len, List.length_map, h.hs.1]) fun i h1 h2 => ?_
  have hi : i < n := by rw [cr.tabH_len] at h1; exact h1
  have hl := h.hs.2 i hi
  rw [iv2.getD_lt _ _ (by rw [h.hs.1]; exact hi)] at hl
  simp only [cr.tabH, cr.rowH, List.getElem_map, List.getElem_range]
  refine List.ext_getElem (by simp [hl]) fun j g1 g2 => ?_
  have hj : j < n := by simp at g1; exact g1
  simp only [List.getElem_map, List.getElem_range]
  have hiL : i < L.length := by rw [h.hs.1]; exact hi
  have e := h.hc i j hi hj
  unfold gt rd at e
  rw [Int.toNat_natCast, Int.toNat_natCast, iv2.getD_lt _ _ (by rw [h.hs.1]; exact hi), List.getD_eq_getElem?_getD (l := L[i]), List.getElem?_eq_getElem (by rw [hl]; exact hj)] at e
  unfold hf
  rw [e]
  rfl
theorem tab_bound (T : List Int) (n : Nat) : (cr.tabH T n).length = n ∧ ∀ q ∈ cr.tabH T n, q.length = n := by
  refine ⟨cr.tabH_len T n, fun q hq => ?_⟩
  obtain ⟨x, _, rfl⟩ := List.mem_map.1 hq
  exact cr.rowH_len T n x
end crx
end Go.Proofs.Ytcbomfkimohlfaa.Lib
