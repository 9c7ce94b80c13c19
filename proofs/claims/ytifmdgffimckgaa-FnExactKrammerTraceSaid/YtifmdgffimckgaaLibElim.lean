/- Elimination of a matrix that sends no vector to 0: both ways come to a full inverse. -/
import Derived.Test.YtifmdgffimckgaaLibInj
set_option linter.unusedVariables false
set_option linter.unusedSimpArgs false
namespace Go.Proofs.Ytifmdgffimckgaa.Lib
open Go.RowKit Go.Proofs.YtifmdgffimckgaaW.PrintWords Go.Proofs.Ytifmdgffimckgaa.LibMx
namespace inj
open iv
def dot : List Int → List Int → Int
  | a :: r, b :: v => a * b + dot r v
  | [], _ => 0
  | _ :: _, [] => 0
theorem dot_append : ∀ (a c b d : List Int), a.length = c.length → dot (a ++ b) (c ++ d) = dot a c + dot b d
  | [], [], b, d, _ => by simp [dot]
  | [], _ :: _, _, _, h => by simp at h
  | _ :: _, [], _, _, h => by simp at h
  | x :: a, y :: c, b, d, h => by
    simp only [List.cons_append, dot]
    rw [dot_append a c b d (by simpa using h)]
    omega
theorem dot_zero : ∀ (r : List Int) (k : Nat), dot r (List.replicate k 0) = 0
  | [], _ => by simp [dot]
  | x :: r, 0 => by simp [dot]
  | x :: r, k + 1 => by
    rw [List.replicate_succ]
    simp only [dot, Int.mul_zero]
    rw [dot_zero r k]
    rfl
theorem dot_none : ∀ (r v : List Int), (∀ x ∈ r, x = 0) → dot r v = 0
  | [], _, _ => by simp [dot]
  | x :: r, [], _ => by simp [dot]
  | x :: r, y :: v, h => by
    simp only [dot]
    rw [h x (by simp), dot_none r v (fun z hz => h z (by simp [hz]))]
    simp
theorem dot_unit : ∀ (r v : List Int) (i : Nat), r.length = v.length → i < r.length → (∀ j : Nat, j < r.length → r.getD j 0 = if j = i then 1 else 0) → dot r v = v.getD i 0
  | [], _, i, _, h, _ => by simp at h
  | x :: r, [], i, h, _, _ => by simp at h
  | x :: r, y :: v, 0, hl, _, hr => by
    have h0 := hr 0 (by simp)
    simp at h0
    simp only [dot]
    rw [dot_none r v (fun z hz => by
      obtain ⟨j, hj, rfl⟩ := List.getElem_of_mem hz
      have := hr (j + 1) (by simp; omega)
      rw [if_neg (by omega), List.getD_cons_succ, List.getD_eq_getElem?_getD, List.getElem?_eq_getElem hj] at this
      exact this), h0]
    simp
  | x :: r, y :: v, i + 1, hl, hi, hr => by
    have h0 := hr 0 (by simp)
    simp at h0
    simp only [dot]
    rw [h0, dot_unit r v i (by simpa using hl) (by simpa using hi) (fun j hj => by
      have := hr (j + 1) (by simp; omega)
      rw [List.getD_cons_succ] at this
      rw [this]
      by_cases e : j = i
      · rw [if_pos e, if_pos (by omega)]
      · rw [if_neg e, if_neg (by omega)])]
    simp
abbrev P0 (x : Int) : Prop := (10007 : Int) ∣ x
theorem inF_em {x : Int} (h : -1000000000 ≤ x ∧ x ≤ 1000000000) : iv.inF x = x % 10007 := by
  unfold iv.inF
  have hb := Int.lt_tmod_of_pos x (b := 10007) (by omega)
  have hb2 := Int.tmod_lt_of_pos x (b := 10007) (by omega)
  rw [w64 (x := Int.tmod x 10007 + 10007) (by omega) (by omega), Int.tmod_eq_emod_of_nonneg (by omega), Int.tmod_def]
  omega
theorem scl_em {x b : Int} (hx : 0 ≤ x ∧ x ≤ 10006) (hb : 0 ≤ b ∧ b ≤ 10006) : Int.tmod (wrap64 (x * b)) 10007 = (x * b) % 10007 := by
  have m1 := fm_bound (a := 0) (by omega) hx hb
  rw [w64 (x := x * b) (by omega) (by omega), Int.tmod_eq_emod_of_nonneg m1.1]
theorem elr_em {x f u : Int} (hx : 0 ≤ x ∧ x ≤ 10006) (hf : 0 ≤ f ∧ f ≤ 10006) (hu : 0 ≤ u ∧ u ≤ 10006) : iv.inF (wrap64 (x - wrap64 (f * u))) = (x - f * u) % 10007 := by
  have m1 := fm_bound (a := 0) (by omega) hf hu
  rw [w64 (x := f * u) (by omega) (by omega), w64 (x := x - f * u) (by omega) (by omega)]
  exact inF_em (by omega)
theorem em_dvd (x : Int) : P0 (x % 10007 - x) := by
  exact ⟨-(x / 10007), by omega⟩
abbrev FV (r : List Int) : Prop := ∀ x ∈ r, 0 ≤ x ∧ x ≤ 10006
theorem dot_scl {b : Int} (hb : 0 ≤ b ∧ b ≤ 10006) : ∀ (r v : List Int), FV r → P0 (dot (sv.scl b r) v - b * dot r v)
  | [], v, _ => by simp [sv.scl, dot]
  | x :: r, [], _ => by simp [sv.scl, dot]
  | x :: r, y :: v, h => by
    have ih := dot_scl hb r v (fun z hz => h z (by simp [hz]))
    have hx := h x (by simp)
    simp only [sv.scl, List.map_cons, dot] at ih ⊢
    rw [scl_em hx hb]
    have h1 : P0 (((x * b) % 10007 - x * b) * y) := Int.dvd_mul_of_dvd_left (em_dvd _)
    have e : (x * b) % 10007 * y + dot (List.map (fun v => (wrap64 (v * b)).tmod 10007) r) v - b * (x * y + dot r v) = ((x * b) % 10007 - x * b) * y + (dot (List.map (fun v => (wrap64 (v * b)).tmod 10007) r) v - b * dot r v) := by
      rw [Int.sub_mul, Int.mul_add, show b * (x * y) = x * b * y by rw [← Int.mul_assoc, Int.mul_comm b x]]
      omega
    rw [e]
    exact Int.dvd_add h1 ih
theorem dot_elr {f : Int} (hf : 0 ≤ f ∧ f ≤ 10006) : ∀ (r o v : List Int), o.length = r.length → FV r → FV o → P0 (dot (sv.elr f r o) v - (dot r v - f * dot o v))
  | [], [], v, _, _, _ => by simp [sv.elr, dot]
  | [], _ :: _, _, h, _, _ => by simp at h
  | _ :: _, [], _, h, _, _ => by simp at h
  | x :: r, u :: o, [], _, _, _ => by simp [sv.elr, dot]
  | x :: r, u :: o, y :: v, hl, hr, ho => by
    have ih := dot_elr hf r o v (by simpa using hl) (fun z hz => hr z (by simp [hz])) (fun z hz => ho z (by simp [hz]))
    have hx := hr x (by simp)
    have hu := ho u (by simp)
    simp only [sv.elr, List.zipWith_cons_cons, dot] at ih ⊢
    rw [elr_em hx hf hu]
    generalize dot (List.zipWith (fun v u => iv.inF (wrap64 (v - wrap64 (f * u)))) r o) v = D at ih ⊢
    have h1 : P0 (((x - f * u) % 10007 - (x - f * u)) * y) := Int.dvd_mul_of_dvd_left (em_dvd _)
    have e : (x - f * u) % 10007 * y + D - (x * y + dot r v - f * (u * y + dot o v)) = ((x - f * u) % 10007 - (x - f * u)) * y + (D - (dot r v - f * dot o v)) := by
      rw [Int.sub_mul, Int.sub_mul, Int.mul_add, show f * (u * y) = f * u * y by rw [Int.mul_assoc]]
      omega
    rw [e]
    exact Int.dvd_add h1 ih
/-- No vector but 0 is sent to 0. -/
def Inj (m : Nat) (L : LLx) : Prop := ∀ v : List Int, v.length = m → (∀ i : Nat, i < m → P0 (dot (L.getD i []) v)) → ∀ j : Nat, j < m → P0 (v.getD j 0)
theorem Inj.swp {m : Nat} {L : LLx} (hs : Sq m L) (h : Inj m L) (i j : Nat) (hi : i < m) (hj : j < m) : Inj m (swp L (i : Int) (j : Int)) := by
  intro v hv hd
  refine h v hv fun a ha => ?_
  unfold iv.swp at hd
  simp only [Int.toNat_natCast] at hd
  have hl := hs.1
  by_cases e1 : a = i
  · have := hd j hj
    rw [getD_set _ _ _ _ (by rw [List.length_set]; omega), if_pos rfl] at this
    rw [e1]; exact this
  · by_cases e2 : a = j
    · have := hd i hi
      by_cases e3 : j = i
      · exact absurd (e2.trans e3) e1
      · rw [getD_set _ _ _ _ (by rw [List.length_set]; omega), if_neg e3, getD_set _ _ _ _ (by omega), if_pos rfl] at this
        rw [e2]; exact this
    · have := hd a ha
      rw [getD_set _ _ _ _ (by rw [List.length_set]; omega), if_neg (Ne.symm e2), getD_set _ _ _ _ (by omega), if_neg (Ne.symm e1)] at this
      exact this
theorem Inj.scl {m : Nat} {L : LLx} (hs : Sq m L) (hf : iv2.FF L) (h : Inj m L) (c : Nat) (hc : c < m) (a b : Int) (hb : 0 ≤ b ∧ b ≤ 10006) (hab : (a * b) % 10007 = 1) : Inj m (L.set c (sv.scl b (L.getD c []))) := by
  intro v hv hd
  refine h v hv fun i hi => ?_
  have hl := hs.1
  have h0 := hd i hi
  rw [getD_set _ _ _ _ (by omega)] at h0
  by_cases e : c = i
  · rw [if_pos e] at h0
    subst e
    have h1 := dot_scl hb (L.getD c []) v (hf.row c)
    have h2 : P0 (b * dot (L.getD c []) v) := by
      have := Int.dvd_sub h0 h1
      rwa [show dot (sv.scl b (L.getD c [])) v - (dot (sv.scl b (L.getD c [])) v - b * dot (L.getD c []) v) = b * dot (L.getD c []) v by omega] at this
    have h3 : P0 (a * b * dot (L.getD c []) v) := by rw [Int.mul_assoc]; exact Int.dvd_mul_of_dvd_right h2
    have h4 : P0 (a * b - 1) := by
      have := em_dvd (a * b)
      rw [hab] at this
      obtain ⟨q, hq⟩ := this
      exact ⟨-q, by omega⟩
    have h5 : P0 ((a * b - 1) * dot (L.getD c []) v) := Int.dvd_mul_of_dvd_left h4
    have := Int.dvd_sub h3 h5
    rwa [Int.sub_mul, Int.one_mul, show a * b * dot (L.getD c []) v - (a * b * dot (L.getD c []) v - dot (L.getD c []) v) = dot (L.getD c []) v by omega] at this
  · rw [if_neg e] at h0
    exact h0
theorem Inj.elr {m : Nat} {L : LLx} (hs : Sq m L) (hf : iv2.FF L) (h : Inj m L) (x c : Nat) (hx : x < m) (hc : c < m) (hxc : x ≠ c) (f : Int) (hff : 0 ≤ f ∧ f ≤ 10006) : Inj m (L.set x (sv.elr f (L.getD x []) (L.getD c []))) := by
  intro v hv hd
  refine h v hv fun i hi => ?_
  have hl := hs.1
  have h0 := hd i hi
  have hcc := hd c hc
  rw [getD_set _ _ _ _ (by omega), if_neg hxc] at hcc
  rw [getD_set _ _ _ _ (by omega)] at h0
  by_cases e : x = i
  · rw [if_pos e] at h0
    subst e
    have h1 := dot_elr hff (L.getD x []) (L.getD c []) v (by rw [hs.2 x hx, hs.2 c hc]) (hf.row x) (hf.row c)
    have h2 := Int.dvd_sub h0 h1
    have h3 : P0 (f * dot (L.getD c []) v) := Int.dvd_mul_of_dvd_right hcc
    have := Int.dvd_add h2 h3
    rwa [show dot (sv.elr f (L.getD x []) (L.getD c [])) v - (dot (sv.elr f (L.getD x []) (L.getD c [])) v - (dot (L.getD x []) v - f * dot (L.getD c []) v)) + f * dot (L.getD c []) v = dot (L.getD x []) v by omega] at this
  · rw [if_neg e] at h0
    exact h0
/-- The first c columns are those of the unit matrix. -/
def Red (m c : Nat) (L : LLx) : Prop := ∀ i j : Nat, i < m → j < c → gt L (i : Int) (j : Int) = if i = j then 1 else 0
theorem gt_set {m : Nat} {L : LLx} (hs : Sq m L) (x : Nat) (hx : x < m) (r : List Int) (i j : Nat) : gt (L.set x r) (i : Int) (j : Int) = if x = i then rd r (j : Int) else gt L (i : Int) (j : Int) := by
  unfold gt
  rw [Int.toNat_natCast, getD_set _ _ _ _ (by rw [hs.1]; exact hx)]
  split <;> rfl
theorem rd_scl (b : Int) (r : List Int) (j : Nat) (h : j < r.length) : rd (sv.scl b r) (j : Int) = Int.tmod (wrap64 (rd r (j : Int) * b)) 10007 := by
  unfold rd sv.scl
  rw [Int.toNat_natCast, List.getD_eq_getElem?_getD, List.getElem?_map, List.getD_eq_getElem?_getD, List.getElem?_eq_getElem h]
  rfl
theorem rd_elr (f : Int) (r o : List Int) (j : Nat) (h : j < r.length) (h2 : j < o.length) : rd (sv.elr f r o) (j : Int) = iv.inF (wrap64 (rd r (j : Int) - wrap64 (f * rd o (j : Int)))) := by
  unfold rd sv.elr
  rw [Int.toNat_natCast, List.getD_eq_getElem?_getD, List.getElem?_zipWith, List.getD_eq_getElem?_getD, List.getD_eq_getElem?_getD, List.getElem?_eq_getElem h, List.getElem?_eq_getElem h2]
  rfl
theorem gt_row (L : LLx) (i j : Nat) : gt L (i : Int) (j : Int) = rd (L.getD i []) (j : Int) := by
  unfold gt; rw [Int.toNat_natCast]
/-- All rows but row c: column c is cleared, the columns ahead stay. -/
theorem rws_full {m : Nat} (c : Nat) (hc : c < m) : ∀ (n : Nat) (x : Nat) (L R : LLx), Sq m L → iv2.FF L → Inj m L → Red m c L → gt L (c : Int) (c : Int) = 1 → (∀ i : Nat, i < x → i ≠ c → gt L (i : Int) (c : Int) = 0) → n + x = m →
    Inj m (rws m (c : Int) n (x : Int) L R).1 ∧ Red m (c + 1) (rws m (c : Int) n (x : Int) L R).1
  | 0, x, L, R, hs, hf, hi, hr, h1, h0, hx => by
    unfold rws
    refine ⟨hi, fun i j hi' hj => ?_⟩
    by_cases e : j = c
    · subst e
      by_cases e2 : i = j
      · subst e2; rw [if_pos rfl]; exact h1
      · rw [if_neg e2]; exact h0 i (by omega) e2
    · exact hr i j hi' (by omega)
  | n + 1, x, L, R, hs, hf, hi, hr, h1, h0, hx => by
    have e1 : ((x : Int) + 1) = ((x + 1 : Nat) : Int) := by omega
    unfold rws
    by_cases c1 : (x : Int) = (c : Int)
    · rw [if_pos c1, e1]
      refine rws_full c hc n (x + 1) L R hs hf hi hr h1 (fun i hi' hne => h0 i (by omega) hne) (by omega)
    · rw [if_neg c1]
      have hxc : x ≠ c := by omega
      by_cases c2 : gt L (x : Int) (c : Int) = 0
      · rw [if_pos c2, e1]
        refine rws_full c hc n (x + 1) L R hs hf hi hr h1 (fun i hi' hne => ?_) (by omega)
        by_cases e : i = x
        · subst e; exact c2
        · exact h0 i (by omega) hne
      · rw [if_neg c2, iv2.el_eq hs _ (x : Int) (c : Int) c1 (by omega) (by omega) (by omega) (by omega), e1]
        simp only [Int.toNat_natCast]
        have hff := hf.gt (x : Int) (c : Int)
        have lx := hs.2 x (by omega)
        have lc := hs.2 c hc
        have ent : ∀ j : Nat, j < m → rd (sv.elr (gt L (x : Int) (c : Int)) (L.getD x []) (L.getD c [])) (j : Int) = (gt L (x : Int) (j : Int) - gt L (x : Int) (c : Int) * gt L (c : Int) (j : Int)) % 10007 := fun j hj => by
          rw [rd_elr _ _ _ j (by omega) (by omega), ← gt_row, ← gt_row]
          exact elr_em (hf.gt _ _) hff (hf.gt _ _)
        refine rws_full c hc n (x + 1) _ _ (hs.set x (by omega) (by rw [iv2.elr_len _ _ _ (by rw [lx, lc])]; exact lx)) (hf.set x (iv2.elr_FF _ _)) (hi.elr hs hf x c (by omega) hc hxc _ hff) ?_ ?_ ?_ (by omega)
        · intro i j hi' hj
          rw [gt_set hs x (by omega)]
          by_cases e : x = i
          · rw [if_pos e, ent j (by omega), hr c j hc hj, if_neg (by omega : ¬ c = j), hr x j (by omega) hj, e, Int.mul_zero, Int.sub_zero]
            split <;> rfl
          · rw [if_neg e]; exact hr i j hi' hj
        · rw [gt_set hs x (by omega), if_neg hxc]; exact h1
        · intro i hi' hne
          rw [gt_set hs x (by omega)]
          by_cases e : x = i
          · rw [if_pos e, ent c hc, h1]
            rw [Int.mul_one, Int.sub_self]; rfl
          · rw [if_neg e]; exact h0 i (by omega) hne
/-- There is a pivot. -/
theorem pivot {m : Nat} {L : LLx} (hs : Sq m L) (hi : Inj m L) (c : Nat) (hc : c < m) (hr : Red m c L) (h0 : ∀ t : Nat, c ≤ t → t < m → gt L (t : Int) (c : Int) = 0) : False := by
  have hv : (((List.range c).map fun j => - gt L ((j : Nat) : Int) (c : Int)) ++ 1 :: List.replicate (m - c - 1) 0).length = m := by simp; omega
  have := hi _ hv (fun i hi' => ?_) c hc
  · rw [List.getD_eq_getElem?_getD, List.getElem?_append_right (by simp)] at this
    simp only [List.length_map, List.length_range, Nat.sub_self, List.getElem?_cons_zero, Option.getD_some] at this
    obtain ⟨q, hq⟩ := this
    omega
  · have li := hs.2 i hi'
    obtain ⟨r, hrow⟩ : ∃ r, L.getD i [] = r := ⟨_, rfl⟩
    have rowv : ∀ j : Nat, rd r (j : Int) = gt L (i : Int) (j : Int) := fun j => by rw [gt_row, hrow]
    rw [hrow] at li
    rw [hrow]
    clear hrow
    have hcl : c < r.length := by omega
    have hsplit : r = r.take c ++ rd r (c : Int) :: r.drop (c + 1) := by
      have e : rd r (c : Int) = r[c] := by
        unfold rd
        rw [Int.toNat_natCast, List.getD_eq_getElem?_getD, List.getElem?_eq_getElem hcl]
        rfl
      rw [e, ← List.drop_eq_getElem_cons hcl, List.take_append_drop]
    have htl : (r.take c).length = c := by rw [List.length_take]; omega
    rw [hsplit, dot_append _ _ _ _ (by rw [htl]; simp)]
    simp only [dot]
    rw [dot_zero, rowv, Int.mul_one, Int.add_zero]
    have ent : ∀ j : Nat, j < c → (r.take c).getD j 0 = if i = j then 1 else 0 := fun j hj => by
      rw [← hr i j hi' hj, ← rowv]
      unfold rd
      rw [Int.toNat_natCast, List.getD_eq_getElem?_getD, List.getElem?_take, if_pos hj, ← List.getD_eq_getElem?_getD]
    by_cases e : i < c
    · rw [dot_unit _ _ i (by rw [htl]; simp) (by rw [htl]; exact e) (fun j hj => by
        rw [ent j (by omega)]
        by_cases e2 : i = j
        · rw [if_pos e2, if_pos e2.symm]
        · rw [if_neg e2, if_neg (Ne.symm e2)])]
      rw [List.getD_eq_getElem?_getD, List.getElem?_map, List.getElem?_range e]
      simp only [Option.map_some, Option.getD_some]
      exact ⟨0, by omega⟩
    · rw [dot_none _ _ (fun z hz => by
        obtain ⟨j, hj, rfl⟩ := List.getElem_of_mem hz
        have h1 := ent j (by omega)
        rw [if_neg (by omega), List.getD_eq_getElem?_getD, List.getElem?_eq_getElem hj] at h1
        exact h1), h0 i (by omega) hi']
      exact ⟨0, rfl⟩
theorem piv_all (c : Int) (L : LLx) : ∀ (n : Nat) (t : Int), iv.piv c n t L = t + n → ∀ s : Int, t ≤ s → s < t + n → gt L s c = 0
  | 0, t, _, s, h0, h1 => by omega
  | n + 1, t, h, s, h0, h1 => by
    unfold iv.piv at h
    by_cases e : gt L t c = 0
    · rw [if_pos e] at h
      by_cases e2 : s = t
      · rw [e2]; exact e
      · exact piv_all c L n (t + 1) (by omega) s (by omega) (by omega)
    · rw [if_neg e] at h; omega
theorem piv_no (c : Int) (L : LLx) : ∀ (n : Nat) (t : Int), iv.piv c n t L ≠ t + n → gt L (iv.piv c n t L) c ≠ 0
  | 0, t, h => by simp [iv.piv] at h
  | n + 1, t, h => by
    unfold iv.piv at h ⊢
    split
    · rename_i e
      rw [if_pos e] at h
      exact piv_no c L n (t + 1) (by omega)
    · rename_i e; exact e
theorem rws_FF2 {m : Nat} {c : Int} (h0 : 0 ≤ c) (h1 : c < m) : ∀ (n : Nat) (x : Int) (L R : LLx), Sq m L → Sq m R → iv2.FF R → 0 ≤ x → (n : Int) + x = m → iv2.FF (rws m c n x L R).2
  | 0, x, L, R, _, _, h, _, _ => h
  | n + 1, x, L, R, hL, hR, h, g0, g1 => by
    unfold rws
    split
    · exact rws_FF2 h0 h1 n _ _ _ hL hR h (by omega) (by omega)
    · next c1 =>
      split
      · exact rws_FF2 h0 h1 n _ _ _ hL hR h (by omega) (by omega)
      · rw [iv2.el_eq hL _ x c c1 h0 h1 g0 (by omega), iv2.el_eq hR _ x c c1 h0 h1 g0 (by omega)]
        refine rws_FF2 h0 h1 n _ _ _ (hL.set _ (by omega) ?_) (hR.set _ (by omega) ?_) (h.set _ (iv2.elr_FF _ _)) (by omega) (by omega)
        · rw [iv2.elr_len _ _ _ (by rw [hL.at x g0 (by omega), hL.at c h0 h1])]
          exact hL.at x g0 (by omega)
        · rw [iv2.elr_len _ _ _ (by rw [hR.at x g0 (by omega), hR.at c h0 h1])]
          exact hR.at x g0 (by omega)
theorem gt_swpN {m : Nat} {L : LLx} (hs : Sq m L) (a b : Nat) (ha : a < m) (hb : b < m) (i j : Nat) : gt (swp L (a : Int) (b : Int)) (i : Int) (j : Int) = if i = b then gt L (a : Int) (j : Int) else if i = a then gt L (b : Int) (j : Int) else gt L (i : Int) (j : Int) := by
  unfold swp
  simp only [Int.toNat_natCast]
  rw [gt_set (hs.set a ha (hs.2 b hb)) b hb, gt_set hs a ha, ← gt_row, ← gt_row]
  by_cases e : b = i
  · rw [if_pos e, if_pos e.symm]
  · rw [if_neg e, if_neg (Ne.symm e)]
    by_cases e2 : a = i
    · rw [if_pos e2, if_pos e2.symm]
    · rw [if_neg e2, if_neg (Ne.symm e2)]
/-- Both ways, to the end. -/
theorem full (inv inv' : Nat → Int → Option Int) (m : Nat) (hi : ∀ x, 0 ≤ x ∧ x ≤ 10006 → Ev (fun k => inv k x) (invM x)) (hi' : ∀ x, 0 ≤ x ∧ x ≤ 10006 → Ev (fun k => inv' k x) (invM x)) :
    ∀ (n c : Nat) (L R : LLx) (p : Int), Sq m L → Sq m R → iv2.FF L → iv2.FF R → Inj m L → Red m c L → n + c = m →
      ∃ (Z : LLx) (d : Int), Ev (fun k => iv.go (inv k) m n (c : Int) L R p) (Z, d) ∧ Ev (fun k => sv.slv (inv' k) m n (c : Int) (iv2.glue L R) p) (d, Z) ∧ Sq m Z ∧ iv2.FF Z
  | 0, c, L, R, p, hL, hR, _, hR2, _, _, _ => by
    refine ⟨R, p, ?_, ?_, hR, hR2⟩
    · simp only [iv.go]; exact Ev.now _
    · simp only [sv.slv]
      rw [iv2.drop_glue (by rw [hL.1, hR.1]) (iv2.Sq_mem hL)]
      exact Ev.now _
  | n + 1, c, L, R, p, hL, hR, hF, hR2, hI, hD, g1 => by
    have hc : c < m := by omega
    have hcI : (c : Int) < m := by omega
    have step : ∀ (L R : LLx) (p : Int), Sq m L → Sq m R → iv2.FF L → iv2.FF R → Inj m L → Red m c L → gt L (c : Int) (c : Int) ≠ 0 → ∃ (Z : LLx) (d : Int), Ev (fun k => go2 (inv k) m (iv.go (inv k) m n) (c : Int) L R p) (Z, d) ∧ Ev (fun k => sv.slv2 (inv' k) m (sv.slv (inv' k) m n) (c : Int) (iv2.glue L R) p) (d, Z) ∧ Sq m Z ∧ iv2.FF Z := by
      intro L R p hL hR hF hR2 hI hD hne
      have e : R.length = L.length := by rw [hL.1, hR.1]
      have hcl : c < L.length := by rw [hL.1]; exact hc
      have a1 := hL.2 c hc
      have a2 := hR.2 c hc
      have hg := hF.gt (c : Int) (c : Int)
      have hb := invM_range hg
      have hmul := invM_mul (x := gt L (c : Int) (c : Int)) (by omega)
      obtain ⟨b, hbe⟩ : ∃ b, invM (gt L (c : Int) (c : Int)) = b := ⟨_, rfl⟩
      rw [hbe] at hb hmul
      have hL' : Sq m (L.set c (sv.scl b (L.getD c []))) := hL.set _ hc (by rw [iv2.scl_len]; exact a1)
      have hR' : Sq m (R.set c (sv.scl b (R.getD c []))) := hR.set _ hc (by rw [iv2.scl_len]; exact a2)
      have hF' : iv2.FF (L.set c (sv.scl b (L.getD c []))) := hF.set _ (iv2.scl_FF hb (hF.row _))
      have hRF' : iv2.FF (R.set c (sv.scl b (R.getD c []))) := hR2.set _ (iv2.scl_FF hb (hR2.row _))
      have hI' := hI.scl hL hF c hc _ b hb hmul
      have hD' : Red m c (L.set c (sv.scl b (L.getD c []))) := fun i j hi0 hj => by
        rw [gt_set hL c hc]
        by_cases e1 : c = i
        · rw [if_pos e1, rd_scl _ _ _ (by omega), ← gt_row, hD c j hc hj, if_neg (by omega : ¬ c = j), if_neg (by omega : ¬ i = j)]
          rw [Int.zero_mul, show wrap64 0 = 0 from w64 (by omega) (by omega)]; rfl
        · rw [if_neg e1]; exact hD i j hi0 hj
      have h1 : gt (L.set c (sv.scl b (L.getD c []))) (c : Int) (c : Int) = 1 := by
        rw [gt_set hL c hc, if_pos rfl, rd_scl _ _ _ (by omega), ← gt_row, scl_em hg hb]
        exact hmul
      obtain ⟨r1, r2, r3⟩ := iv2.rws_glue m (c : Int) (by omega) hcI (sv.scl b (L.getD c [])) (sv.scl b (R.getD c [])) m 0 _ _ hL' hR' (by omega) (by omega) (by rw [Int.toNat_natCast, getD_set L _ _ _ hcl, if_pos rfl]) (by rw [Int.toNat_natCast, getD_set R _ _ _ (by rw [e]; exact hcl), if_pos rfl])
      have r4 := iv2.rws_FF (m := m) (c := (c : Int)) (by omega) hcI m 0 _ (R.set c (sv.scl b (R.getD c []))) hL' hF' (by omega) (by omega)
      have r5 := rws_FF2 (m := m) (c := (c : Int)) (by omega) hcI m 0 _ _ hL' hR' hRF' (by omega) (by omega)
      obtain ⟨r6, r7⟩ := rws_full c hc m 0 _ (R.set c (sv.scl b (R.getD c []))) hL' hF' hI' hD' h1 (fun i hi0 _ => by omega) (by omega)
      obtain ⟨Z, d, e1, e2, z1⟩ := full inv inv' m hi hi' n (c + 1) _ _ (Int.tmod (wrap64 (p * gt L (c : Int) (c : Int))) 10007) r2 r3 r4 r5 r6 r7 (by omega)
      rw [show (((c + 1 : Nat)) : Int) = (c : Int) + 1 by omega] at e1 e2
      refine ⟨Z, d, ?_, ?_, z1⟩
      · simp only [go2]
        refine Ev.bind (hi _ hg) ?_
        rw [hbe, iv2.sc_eq hL b (c : Int) (by omega) hcI, iv2.sc_eq hR b (c : Int) (by omega) hcI]
        exact e1
      · simp only [sv.slv2]
        rw [iv2.gt_glue hL hR (c : Int) (c : Int) (by omega) hcI (by omega) hcI]
        refine Ev.bind (hi' _ hg) ?_
        rw [hbe, Int.toNat_natCast, iv2.glue_at L R e c hcl, iv2.scl_append, ← iv2.glue_set _ _ _ _ _ e, r1]
        exact e2
    unfold iv.go sv.slv
    rw [iv2.piv_glue hL hR (c : Int) (by omega) hcI (n + 1) (c : Int) (by omega) (by omega)]
    have hp := piv_range (c : Int) L (n + 1) (c : Int)
    have hno := piv_no (c : Int) L (n + 1) (c : Int)
    by_cases c1 : piv (c : Int) (n + 1) (c : Int) L = (m : Int)
    · exact absurd (pivot hL hI c hc hD (fun t h0 h1 => piv_all (c : Int) L (n + 1) (c : Int) (by omega) (t : Int) (by omega) (by omega))) id
    · simp only [if_neg c1]
      by_cases c2 : piv (c : Int) (n + 1) (c : Int) L = (c : Int)
      · simp only [if_pos c2]
        rw [c2] at hno
        exact step L R p hL hR hF hR2 hI hD (hno (by omega))
      · simp only [if_neg c2]
        generalize piv (c : Int) (n + 1) (c : Int) L = pv at hp hno c1 c2
        obtain ⟨q, hq⟩ : ∃ q : Nat, pv = (q : Int) := ⟨pv.toNat, by omega⟩
        subst hq
        rw [iv2.swp_glue hL hR (q : Int) (c : Int) (by omega) (by omega) (by omega) hcI]
        have hqm : q < m := by omega
        have hqc : c < q := by omega
        refine step _ _ _ (hL.swp _ _ (by omega) (by omega) (by omega) hcI) (hR.swp _ _ (by omega) (by omega) (by omega) hcI) (hF.swp _ _) (hR2.swp _ _) (hI.swp hL q c hqm hc) (fun i j hi0 hj => ?_) ?_
        · rw [gt_swpN hL q c hqm hc]
          by_cases e1 : i = c
          · rw [if_pos e1, hD q j hqm hj, if_neg (by omega : ¬ q = j), if_neg (by omega : ¬ i = j)]
          · rw [if_neg e1]
            by_cases e2 : i = q
            · rw [if_pos e2, hD c j hc hj, if_neg (by omega : ¬ c = j), if_neg (by omega : ¬ i = j)]
            · rw [if_neg e2]; exact hD i j hi0 hj
        · rw [gt_swpN hL q c hqm hc, if_pos rfl]
          exact hno (by omega)
end inj
end Go.Proofs.Ytifmdgffimckgaa.Lib
