/- Linking numbers of components: both ways come to the same. -/
import Derived.Test.YtcbomfkimohlfaaLibCross
import Derived.Test.YtcbomfkimohlfaaLibCyc
import Derived.Test.YtcbomfkimohlfaaLibCl
set_option linter.unusedVariables false
set_option linter.unusedSimpArgs false
namespace Go.Proofs.Ytcbomfkimohlfaa.Lib
open Go.RowKit Go.Proofs.YtcbomfkimohlfaaW.PrintWords Go.Proofs.Ytcbomfkimohlfaa.LibMx Go.Proofs.Ytcbomfkimohlfaa.LibCr Go.Proofs.Ytcbomfkimohlfaa.LibCl
namespace clx
open iv
abbrev LLx := List (List Int)
def cs (f : Int → Int → Int) (B : List Int) (x : Int) (acc : Int) : Int := B.foldl (fun b y => wrap64 (b + f x y)) acc
def css (f : Int → Int → Int) (A B : List Int) (acc : Int) : Int := A.foldl (fun a x => cs f B x a) acc
theorem foldl_congr {α : Type} (f g : α → Int → α) : ∀ (l : List Int) (a : α), (∀ b, ∀ x ∈ l, f b x = g b x) → l.foldl f a = l.foldl g a
  | [], a, _ => rfl
  | x :: l, a, h => by
    rw [List.foldl_cons, List.foldl_cons, h a x (by simp)]
    exact foldl_congr f g l _ (fun b y hy => h b y (by simp [hy]))
theorem css_congr (f g : Int → Int → Int) (A B : List Int) (acc : Int) (h : ∀ x ∈ A, ∀ y ∈ B, f x y = g x y) : css f A B acc = css g A B acc := by
  unfold css
  refine foldl_congr _ _ A acc fun a x hx => ?_
  unfold cs
  exact foldl_congr _ _ B a fun b y hy => by rw [h x hx y hy]
-- the program's way, cell by cell
theorem gt_self {c : Nat} {L : LLx} (hs : Sq c L) (i k v : Int) (hi : 0 ≤ i ∧ i < c) (hk : 0 ≤ k ∧ k < c) : gt (pt L i k v) i k = v := by
  have h := crx.gt_pt hs i k v hi hk i.toNat k.toNat
  rw [if_pos ⟨rfl, rfl⟩, show ((i.toNat : Nat) : Int) = i by omega, show ((k.toNat : Nat) : Int) = k by omega] at h
  exact h
theorem pt_pt (L : LLx) (i k v u : Int) (h : i.toNat < L.length) : pt (pt L i k v) i k u = pt L i k u := by
  unfold pt
  rw [getD_set _ _ _ _ h, if_pos rfl]
  simp
theorem pt_gt {c : Nat} {L : LLx} (hs : Sq c L) (i k : Int) (hi : 0 ≤ i ∧ i < c) (hk : 0 ≤ k ∧ k < c) : pt L i k (gt L i k) = L := by
  unfold pt gt rd
  have h := hs.at i hi.1 hi.2
  have hl : i.toNat < L.length := by rw [hs.1]; omega
  generalize hq : L.getD i.toNat [] = q at h
  rw [List.getD_eq_getElem?_getD, List.getElem?_eq_getElem (by omega)]
  simp only [Option.getD_some, List.set_getElem_self]
  rw [← hq, iv2.getD_lt _ _ hl]
  simp
theorem ly_eq {c : Nat} (C : LLx) (i k x : Int) (hi : 0 ≤ i ∧ i < c) (hk : 0 ≤ k ∧ k < c) : ∀ (ys : List Int) (L : LLx), Sq c L → cl.ly C i k x ys L = pt L i k (cs (gt C) ys x (gt L i k))
  | [], L, hs => by unfold cl.ly cs; exact (pt_gt hs i k hi hk).symm
  | y :: ys, L, hs => by
    unfold cl.ly
    rw [ly_eq C i k x hi hk ys _ (hs.pt _ _ _ hi.1 hi.2), gt_self hs i k _ hi hk, pt_pt _ _ _ _ _ (by rw [hs.1]; omega)]
    unfold cs
    rw [List.foldl_cons]
theorem lx_eq {c : Nat} (C : LLx) (i k : Int) (two : List Int) (hi : 0 ≤ i ∧ i < c) (hk : 0 ≤ k ∧ k < c) : ∀ (xs : List Int) (L : LLx), Sq c L → cl.lx C i k two xs L = pt L i k (css (gt C) xs two (gt L i k))
  | [], L, hs => by unfold cl.lx css; exact (pt_gt hs i k hi hk).symm
  | x :: xs, L, hs => by
    unfold cl.lx
    rw [ly_eq C i k x hi hk two L hs, lx_eq C i k two hi hk xs _ (hs.pt _ _ _ hi.1 hi.2), gt_self hs i k _ hi hk, pt_pt _ _ _ _ _ (by rw [hs.1]; omega)]
    unfold css
    rw [List.foldl_cons]
theorem lk_eq {c : Nat} (C O : LLx) (i : Int) (one : List Int) (hi : 0 ≤ i ∧ i < c) : ∀ (n : Nat) (k : Int) (L : LLx), Sq c L → 0 ≤ k → (n : Int) + k = c →
    Sq c (cl.lk C O i one n k L) ∧ ∀ a b : Nat, a < c → b < c → gt (cl.lk C O i one n k L) (a : Int) (b : Int) = if i.toNat = a ∧ k ≤ (b : Int) then crx.hf (css (gt C) one (O.getD b []) (gt L (a : Int) (b : Int))) else gt L (a : Int) (b : Int)
  | 0, k, L, hs, h0, h1 => ⟨hs, fun a b ha hb => by unfold cl.lk; rw [if_neg (by omega)]⟩
  | n + 1, k, L, hs, h0, h1 => by
    have hk : 0 ≤ k ∧ k < c := ⟨h0, by omega⟩
    unfold cl.lk
    rw [lx_eq C i k _ hi hk one L hs, gt_self hs i k _ hi hk, pt_pt _ _ _ _ _ (by rw [hs.1]; omega)]
    obtain ⟨s1, s2⟩ := lk_eq C O i one hi n (k + 1) _ (hs.pt i k (crx.hf (css (gt C) one (O.getD k.toNat []) (gt L i k))) hi.1 hi.2) (by omega) (by omega)
    refine ⟨s1, fun a b ha hb => ?_⟩
    refine (s2 a b ha hb).trans ?_
    rw [crx.gt_pt hs i k _ hi hk a b]
    by_cases e1 : i.toNat = a
    · by_cases e2 : k.toNat = b
      · rw [if_neg (show ¬ (i.toNat = a ∧ k + 1 ≤ (b : Int)) from by omega), if_pos (show i.toNat = a ∧ k.toNat = b from ⟨e1, e2⟩), if_pos (show i.toNat = a ∧ k ≤ (b : Int) from ⟨e1, by omega⟩), ← e1, ← e2, show ((i.toNat : Nat) : Int) = i by omega, show ((k.toNat : Nat) : Int) = k by omega]
      · rw [if_neg (show ¬ (i.toNat = a ∧ k.toNat = b) from fun h => e2 h.2)]
        by_cases e3 : k + 1 ≤ (b : Int)
        · rw [if_pos (show i.toNat = a ∧ k + 1 ≤ (b : Int) from ⟨e1, e3⟩), if_pos (show i.toNat = a ∧ k ≤ (b : Int) from ⟨e1, by omega⟩)]
        · rw [if_neg (show ¬ (i.toNat = a ∧ k + 1 ≤ (b : Int)) from fun h => e3 h.2), if_neg (show ¬ (i.toNat = a ∧ k ≤ (b : Int)) from by omega)]
    · rw [if_neg (show ¬ (i.toNat = a ∧ k + 1 ≤ (b : Int)) from fun h => e1 h.1), if_neg (show ¬ (i.toNat = a ∧ k.toNat = b) from fun h => e1 h.1), if_neg (show ¬ (i.toNat = a ∧ k ≤ (b : Int)) from fun h => e1 h.1)]
theorem li_eq {c : Nat} (C O : LLx) : ∀ (n : Nat) (i : Int) (L : LLx), Sq c L → 0 ≤ i → (n : Int) + i = c →
    Sq c (cl.li C O c n i L) ∧ ∀ a b : Nat, a < c → b < c → gt (cl.li C O c n i L) (a : Int) (b : Int) = if i ≤ (a : Int) then crx.hf (css (gt C) (O.getD a []) (O.getD b []) (gt L (a : Int) (b : Int))) else gt L (a : Int) (b : Int)
  | 0, i, L, hs, h0, h1 => ⟨hs, fun a b ha hb => by unfold cl.li; rw [if_neg (by omega)]⟩
  | n + 1, i, L, hs, h0, h1 => by
    unfold cl.li
    obtain ⟨t1, t2⟩ := lk_eq C O i (O.getD i.toNat []) ⟨h0, by omega⟩ c 0 L hs (by omega) (by omega)
    obtain ⟨s1, s2⟩ := li_eq C O n (i + 1) _ t1 (by omega) (by omega)
    refine ⟨s1, fun a b ha hb => ?_⟩
    rw [s2 a b ha hb, t2 a b ha hb]
    by_cases e1 : i.toNat = a
    · rw [if_neg (show ¬ (i + 1 ≤ (a : Int)) from by omega), if_pos (show i.toNat = a ∧ (0 : Int) ≤ (b : Int) from ⟨e1, by omega⟩), if_pos (show i ≤ (a : Int) from by omega), e1]
    · rw [if_neg (show ¬ (i.toNat = a ∧ (0 : Int) ≤ (b : Int)) from fun h => e1 h.1)]
      by_cases e3 : i + 1 ≤ (a : Int)
      · rw [if_pos e3, if_pos (by omega)]
      · rw [if_neg e3, if_neg (by omega)]
-- the reference's way
def ft (T : List Int) (x y : Int) : Int := T.getD (x.toNat * 8 + y.toNat) 0
theorem y1_rd {c m : Nat} {T W : List Int} (hw : cl.okW m c W) (x : Int) : ∀ (n : Nat) (y : Int) (r : List Int) (j : Int), r.length = c → 0 ≤ y → (n : Int) + y = m → 0 ≤ j → j < c →
    rd (cl.y1 T W x n y r) j = cs (ft T) ((iota y n).filter fun z => decide (rd W z = j)) x (rd r j)
  | 0, y, r, j, _, _, _, _, _ => rfl
  | n + 1, y, r, j, hr, h0, h1, j0, j1 => by
    have hwy := hw.at_ y h0 (by omega)
    unfold cl.y1
    rw [y1_rd hw x n (y + 1) _ j (by rw [List.length_set]; exact hr) (by omega) (by omega) j0 j1, crx.rd_setI _ _ _ _ (by omega)]
    simp only [iota]
    by_cases e : rd W y = j
    · rw [List.filter_cons_of_pos (by simp [e]), if_pos (by omega)]
      unfold cs
      rw [List.foldl_cons, e]
      rfl
    · rw [List.filter_cons_of_neg (by simp [e]), if_neg (by omega)]
theorem x1_rd {c m : Nat} {T W : List Int} (hw : cl.okW m c W) (k : Int) : ∀ (n : Nat) (x : Int) (r : List Int) (j : Int), r.length = c → 0 ≤ x → (n : Int) + x = m → 0 ≤ j → j < c →
    rd (cl.x1 T W k m n x r) j = css (ft T) ((iota x n).filter fun z => decide (rd W z = k)) (partL m W j) (rd r j)
  | 0, x, r, j, _, _, _, _, _ => rfl
  | n + 1, x, r, j, hr, h0, h1, j0, j1 => by
    unfold cl.x1
    simp only [iota]
    by_cases e : rd W x = k
    · rw [if_pos e, x1_rd hw k n (x + 1) _ j (by rw [cl.y1_len]; exact hr) (by omega) (by omega) j0 j1, y1_rd hw x m 0 r j hr (by omega) (by omega) j0 j1, List.filter_cons_of_pos (by simp [e])]
      unfold css
      rw [List.foldl_cons]
      rfl
    · rw [if_neg e, x1_rd hw k n (x + 1) _ j hr (by omega) (by omega) j0 j1, List.filter_cons_of_neg (by simp [e])]
theorem hal_rd : ∀ (n : Nat) (j : Int) (r : List Int) (a : Int), 0 ≤ j → 0 ≤ a → (n : Int) + j = r.length → a < r.length → rd (cl.hal n j r) a = if j ≤ a then crx.hf (rd r a) else rd r a
  | 0, j, r, a, h0, a0, h1, a1 => by unfold cl.hal; rw [if_neg (by omega)]
  | n + 1, j, r, a, h0, a0, h1, a1 => by
    unfold cl.hal
    rw [hal_rd n (j + 1) _ a (by omega) a0 (by rw [List.length_set]; omega) (by rw [List.length_set]; exact a1), crx.rd_setI _ _ _ _ (by omega)]
    by_cases e : j.toNat = a.toNat
    · rw [if_neg (by omega), if_pos e, if_pos (by omega), show a = j by omega]; rfl
    · rw [if_neg e]
      by_cases e3 : j + 1 ≤ a
      · rw [if_pos e3, if_pos (by omega)]
      · rw [if_neg e3, if_neg (by omega)]
theorem tab_gt {c m : Nat} {T W : List Int} (hw : cl.okW m c W) : Sq c (cl.tab T W m c) ∧ ∀ a b : Nat, a < c → b < c → gt (cl.tab T W m c) (a : Int) (b : Int) = crx.hf (css (ft T) (partL m W (a : Int)) (partL m W (b : Int)) 0) := by
  have row : ∀ a : Nat, a < c → (cl.tab T W m c).getD a [] = cl.rowOf T W m c a := fun a ha => by
    rw [iv2.getD_lt _ _ (by rw [cl.tab_len]; exact ha)]
    simp only [cl.tab, List.getElem_map, List.getElem_range]
  refine ⟨⟨cl.tab_len T W m c, fun i hi => by rw [row i hi, cl.rowOf_len]⟩, fun a b ha hb => ?_⟩
  unfold gt
  rw [Int.toNat_natCast, row a ha]
  unfold cl.rowOf
  have hl : (cl.x1 T W (a : Int) m m 0 (List.replicate c 0)).length = c := by rw [cl.x1_len, List.length_replicate]
  rw [hal_rd c 0 _ (b : Int) (by omega) (by omega) (by rw [hl]; omega) (by rw [hl]; omega), if_pos (by omega), x1_rd hw (a : Int) m 0 _ (b : Int) (by simp) (by omega) (by omega) (by omega) (by omega), rd_zeros]
  rfl
theorem eq_of_gt {c : Nat} {L R : LLx} (hL : Sq c L) (hR : Sq c R) (h : ∀ a b : Nat, a < c → b < c → gt L (a : Int) (b : Int) = gt R (a : Int) (b : Int)) : L = R := by
  refine List.ext_getElem (by rw [hL.1, hR.1]) fun i h1 h2 => ?_
  have hi : i < c := by rw [← hL.1]; exact h1
  have l1 := hL.2 i hi
  have l2 := hR.2 i hi
  rw [iv2.getD_lt _ _ h1] at l1
  rw [iv2.getD_lt _ _ h2] at l2
  refine List.ext_getElem (by rw [l1, l2]) fun j g1 g2 => ?_
  have hj : j < c := by rw [← l1]; exact g1
  have e := h i j hi hj
  unfold gt at e
  rw [Int.toNat_natCast, iv2.getD_lt _ _ h1, iv2.getD_lt _ _ h2, rd_get _ _ g1, rd_get _ _ g2] at e
  exact e
/-- Both ways. -/
theorem same {n : Nat} {ys xs T W : List Int} {C O : LLx} (hr : crx.Rel n ys xs T C) (hw : cl.okW n O.length W) (hO : ∀ k : Nat, k < O.length → O[k]? = some (partL n W (k : Int))) :
    cl.tab T W n O.length = cl.li C O O.length O.length 0 (List.replicate O.length (List.replicate O.length 0)) := by
  obtain ⟨s1, s2⟩ := tab_gt (T := T) hw
  obtain ⟨t1, t2⟩ := li_eq C O O.length 0 _ (crx.zero_Sq O.length) (by omega) (by omega)
  refine eq_of_gt s1 t1 fun a b ha hb => ?_
  have row : ∀ k : Nat, k < O.length → O.getD k [] = partL n W (k : Int) := fun k hk => by rw [List.getD_eq_getElem?_getD, hO k hk]; rfl
  have hz : gt (List.replicate O.length (List.replicate O.length 0)) (a : Int) (b : Int) = 0 := by
    unfold gt
    rw [List.getD_eq_getElem?_getD, List.getElem?_replicate, Int.toNat_natCast, if_pos ha]
    exact rd_zeros _ b
  rw [s2 a b ha hb, t2 a b ha hb, if_pos (by omega), row a ha, row b hb, hz]
  congr 1
  refine css_congr _ _ _ _ _ fun x hx y hy => ?_
  have h1 := (mem_partL.1 hx).1
  have h2 := (mem_partL.1 hy).1
  have e := hr.hc x.toNat y.toNat (by omega) (by omega)
  rw [show ((x.toNat : Nat) : Int) = x by omega, show ((y.toNat : Nat) : Int) = y by omega] at e
  exact e
theorem okO_of {n : Nat} (hn : n ≤ 8) {W : List Int} {O : LLx} (hO : ∀ k : Nat, k < O.length → O[k]? = some (partL n W (k : Int))) : cl.okO n O := by
  intro q hq
  obtain ⟨i, hi, rfl⟩ := List.getElem_of_mem hq
  have h := hO i hi
  rw [List.getElem?_eq_getElem hi, Option.some.injEq] at h
  rw [h]
  refine ⟨?_, fun x hx => (mem_partL.1 hx).1⟩
  unfold partL
  have := List.length_filter_le (fun x => decide (rd W x = (i : Int))) (iota 0 n)
  rw [iota_length] at this
  omega
end clx
end Go.Proofs.Ytcbomfkimohlfaa.Lib
