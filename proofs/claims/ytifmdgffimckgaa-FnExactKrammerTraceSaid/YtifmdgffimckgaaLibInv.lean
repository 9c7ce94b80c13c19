/- Two ways to invert a matrix in lockstep: two matrices side by side, and one matrix of rows twice as long. -/
import Derived.Test.YtifmdgffimckgaaLibChar
import Derived.Test.YtifmdgffimckgaaLibMx
set_option linter.unusedVariables false
set_option linter.unusedSimpArgs false
namespace Go.Proofs.Ytifmdgffimckgaa.Lib
open Go.RowKit Go.Proofs.YtifmdgffimckgaaW.PrintWords Go.Proofs.Ytifmdgffimckgaa.LibMx
namespace iv2
open iv
abbrev LLx := List (List Int)
def glue (L R : LLx) : LLx := List.zipWith (fun a b => a ++ b) L R
theorem getD_lt (L : LLx) (i : Nat) (h : i < L.length) : L.getD i [] = L[i] := by
  rw [List.getD_eq_getElem?_getD, List.getElem?_eq_getElem h]; rfl
theorem glue_len (L R : LLx) (h : R.length = L.length) : (glue L R).length = L.length := by simp [glue, h]
theorem glue_at (L R : LLx) (h : R.length = L.length) (i : Nat) (hi : i < L.length) : (glue L R).getD i [] = L.getD i [] ++ R.getD i [] := by
  rw [getD_lt _ _ (by rw [glue_len L R h]; exact hi), getD_lt _ _ hi, getD_lt _ _ (by omega)]
  simp [glue]
theorem glue_set : ∀ (L R : LLx) (i : Nat) (a b : List Int), R.length = L.length → glue (L.set i a) (R.set i b) = (glue L R).set i (a ++ b)
  | [], [], _, _, _, _ => by simp [glue]
  | [], _ :: _, _, _, _, h => by simp at h
  | _ :: _, [], _, _, _, h => by simp at h
  | x :: L, y :: R, 0, a, b, h => by simp [glue]
  | x :: L, y :: R, i + 1, a, b, h => by
    have := glue_set L R i a b (by simpa using h)
    simp only [glue] at this
    simp [glue, this]
theorem rd_left (a b : List Int) (j : Int) (h : j.toNat < a.length) : rd (a ++ b) j = rd a j := by
  simp only [rd, List.getD_eq_getElem?_getD]
  rw [List.getElem?_append_left h]
theorem gt_glue {m : Nat} {L R : LLx} (hL : Sq m L) (hR : Sq m R) (i j : Int) (h0 : 0 ≤ i) (h1 : i < m) (g0 : 0 ≤ j) (g1 : j < m) : gt (glue L R) i j = gt L i j := by
  unfold gt
  rw [glue_at L R (by rw [hL.1, hR.1]) i.toNat (by rw [hL.1]; omega)]
  exact rd_left _ _ _ (by rw [hL.at i h0 h1]; omega)
theorem piv_glue {m : Nat} {L R : LLx} (hL : Sq m L) (hR : Sq m R) (c : Int) (g0 : 0 ≤ c) (g1 : c < m) : ∀ (n : Nat) (t : Int), 0 ≤ t → (n : Int) + t ≤ m → piv c n t (glue L R) = piv c n t L
  | 0, _, _, _ => rfl
  | n + 1, t, h0, h1 => by
    unfold piv
    rw [gt_glue hL hR t c h0 (by omega) g0 g1, piv_glue hL hR c g0 g1 n (t + 1) (by omega) (by omega)]
theorem swp_glue {m : Nat} {L R : LLx} (hL : Sq m L) (hR : Sq m R) (i j : Int) (h0 : 0 ≤ i) (h1 : i < m) (g0 : 0 ≤ j) (g1 : j < m) : swp (glue L R) i j = glue (swp L i j) (swp R i j) := by
  unfold swp
  have e : R.length = L.length := by rw [hL.1, hR.1]
  rw [glue_at L R e i.toNat (by rw [hL.1]; omega), glue_at L R e j.toNat (by rw [hL.1]; omega), glue_set _ _ _ _ _ (by simp [e]), glue_set _ _ _ _ _ e]
-- one row, scaled
def scN (b : Int) : Nat → Int → List Int → List Int
  | 0, _, r => r
  | n + 1, y, r => scN b n (y + 1) (r.set y.toNat (Int.tmod (wrap64 (rd r y * b)) 10007))
theorem set_set_same (L : LLx) (i : Nat) (a b : List Int) : (L.set i a).set i b = L.set i b := by simp
theorem sc_row (b c : Int) : ∀ (n : Nat) (y : Int) (L : LLx), c.toNat < L.length → sc b c n y L = L.set c.toNat (scN b n y (L.getD c.toNat []))
  | 0, y, L, h => by
    unfold sc scN
    rw [getD_lt _ _ h]
    simp
  | n + 1, y, L, h => by
    unfold sc scN
    rw [sc_row b c n (y + 1) _ (by unfold pt; rw [List.length_set]; exact h)]
    unfold pt gt
    rw [set_set_same, getD_set L _ _ _ h, if_pos rfl]
theorem rd_mid' (p q : List Int) (x : Int) (y : Int) (h : y = (p.length : Int)) : rd (p ++ x :: q) y = x := by subst h; exact rd_mid p q x
theorem set_mid (p q : List Int) (x v : Int) (y : Int) (h : y = (p.length : Int)) : (p ++ x :: q).set y.toNat v = (p ++ [v]) ++ q := by
  subst h
  rw [Int.toNat_natCast]
  simp [List.set_append]
theorem scN_eq (b : Int) : ∀ (q p : List Int) (y : Int), y = (p.length : Int) → scN b q.length y (p ++ q) = p ++ sv.scl b q
  | [], p, y, h => by simp [scN, sv.scl]
  | x :: q, p, y, h => by
    rw [List.length_cons]
    unfold scN
    rw [rd_mid' p q x y h, set_mid p q x _ y h]
    have := scN_eq b q (p ++ [Int.tmod (wrap64 (x * b)) 10007]) (y + 1) (by simp; omega)
    rw [this]
    simp [sv.scl]
theorem sc_eq {m : Nat} {L : LLx} (hL : Sq m L) (b c : Int) (h0 : 0 ≤ c) (h1 : c < m) : sc b c m 0 L = L.set c.toNat (sv.scl b (L.getD c.toNat [])) := by
  rw [sc_row b c m 0 L (by rw [hL.1]; omega)]
  have h := scN_eq b (L.getD c.toNat []) [] 0 (by simp)
  rw [hL.at c h0 h1, List.nil_append, List.nil_append] at h
  rw [h]
-- one row less a multiple of another
def elN (f : Int) (o : List Int) : Nat → Int → List Int → List Int
  | 0, _, r => r
  | n + 1, y, r => elN f o n (y + 1) (r.set y.toNat (iv.inF (wrap64 (rd r y - wrap64 (f * rd o y)))))
theorem el_row (f x c : Int) (hxc : x.toNat ≠ c.toNat) : ∀ (n : Nat) (y : Int) (L : LLx), x.toNat < L.length → el f x c n y L = L.set x.toNat (elN f (L.getD c.toNat []) n y (L.getD x.toNat []))
  | 0, y, L, h => by
    unfold el elN
    rw [getD_lt _ _ h]
    simp
  | n + 1, y, L, h => by
    unfold el elN
    rw [el_row f x c hxc n (y + 1) _ (by unfold pt; rw [List.length_set]; exact h)]
    unfold pt gt
    rw [set_set_same, getD_set L x.toNat c.toNat _ h, if_neg hxc, getD_set L x.toNat x.toNat _ h, if_pos rfl]
theorem elN_eq (f : Int) : ∀ (q o p po : List Int) (y : Int), y = (p.length : Int) → po.length = p.length → o.length = q.length → elN f (po ++ o) q.length y (p ++ q) = p ++ sv.elr f q o
  | [], [], p, po, y, h, _, _ => by simp [elN, sv.elr]
  | [], _ :: _, _, _, _, _, _, h => by simp at h
  | _ :: _, [], _, _, _, _, _, h => by simp at h
  | x :: q, u :: o, p, po, y, h, h2, h3 => by
    rw [List.length_cons]
    unfold elN
    rw [rd_mid' p q x y h, rd_mid' po o u y (by omega), set_mid p q x _ y h]
    have := elN_eq f q o (p ++ [iv.inF (wrap64 (x - wrap64 (f * u)))]) (po ++ [u]) (y + 1) (by simp; omega) (by simp; omega) (by simpa using h3)
    rw [List.append_assoc po, List.singleton_append] at this
    rw [this]
    simp [sv.elr]
theorem el_eq {m : Nat} {L : LLx} (hL : Sq m L) (f x c : Int) (hxc : x ≠ c) (h0 : 0 ≤ c) (h1 : c < m) (g0 : 0 ≤ x) (g1 : x < m) : el f x c m 0 L = L.set x.toNat (sv.elr f (L.getD x.toNat []) (L.getD c.toNat [])) := by
  rw [el_row f x c (by omega) m 0 L (by rw [hL.1]; omega)]
  have h := elN_eq f (L.getD x.toNat []) (L.getD c.toNat []) [] [] 0 (by simp) rfl (by rw [hL.at c h0 h1, hL.at x g0 g1])
  rw [hL.at x g0 g1, List.nil_append, List.nil_append, List.nil_append] at h
  rw [h]
theorem scl_append (b : Int) (p q : List Int) : sv.scl b (p ++ q) = sv.scl b p ++ sv.scl b q := by simp [sv.scl]
theorem elr_append (f : Int) (p q a b : List Int) (h : p.length = a.length) : sv.elr f (p ++ q) (a ++ b) = sv.elr f p a ++ sv.elr f q b := by
  simp only [sv.elr]; exact List.zipWith_append h
theorem scl_len (b : Int) (p : List Int) : (sv.scl b p).length = p.length := by simp [sv.scl]
theorem elr_len (f : Int) (p a : List Int) (h : a.length = p.length) : (sv.elr f p a).length = p.length := by simp [sv.elr, h]
/-- All rows but row c. -/
theorem rws_glue (m : Nat) (c : Int) (h0 : 0 ≤ c) (h1 : c < m) (oL oR : List Int) : ∀ (n : Nat) (x : Int) (L R : LLx), Sq m L → Sq m R → 0 ≤ x → (n : Int) + x = m → L.getD c.toNat [] = oL → R.getD c.toNat [] = oR →
    sv.rw2 c (oL ++ oR) n x (glue L R) = glue (rws m c n x L R).1 (rws m c n x L R).2 ∧ Sq m (rws m c n x L R).1 ∧ Sq m (rws m c n x L R).2
  | 0, x, L, R, hL, hR, _, _, _, _ => ⟨rfl, hL, hR⟩
  | n + 1, x, L, R, hL, hR, g0, g1, eL, eR => by
    unfold sv.rw2 rws
    have e : R.length = L.length := by rw [hL.1, hR.1]
    by_cases c1 : x = c
    · rw [if_pos c1, if_pos c1]
      exact rws_glue m c h0 h1 oL oR n (x + 1) L R hL hR (by omega) (by omega) eL eR
    · rw [if_neg c1, if_neg c1, gt_glue hL hR x c g0 (by omega) h0 h1]
      by_cases c2 : gt L x c = 0
      · rw [if_pos c2, if_pos c2]
        exact rws_glue m c h0 h1 oL oR n (x + 1) L R hL hR (by omega) (by omega) eL eR
      · rw [if_neg c2, if_neg c2, el_eq hL _ x c c1 h0 h1 g0 (by omega), el_eq hR _ x c c1 h0 h1 g0 (by omega), glue_at L R e x.toNat (by rw [hL.1]; omega),
          elr_append _ _ _ _ _ (by rw [← eL, hL.at x g0 (by omega), hL.at c h0 h1]), ← glue_set _ _ _ _ _ e, eL, eR]
        have a1 := hL.at x g0 (by omega)
        have a2 := hR.at x g0 (by omega)
        have a3 := hL.at c h0 h1
        have a4 := hR.at c h0 h1
        rw [eL] at a3
        rw [eR] at a4
        refine rws_glue m c h0 h1 oL oR n (x + 1) _ _ (hL.set _ (by omega) ?_) (hR.set _ (by omega) ?_) (by omega) (by omega) ?_ ?_
        · rw [elr_len _ _ _ (by rw [a1, a3])]; exact a1
        · rw [elr_len _ _ _ (by rw [a2, a4])]; exact a2
        · rw [getD_set L _ _ _ (by rw [hL.1]; omega), if_neg (by omega)]; exact eL
        · rw [getD_set R _ _ _ (by rw [hR.1]; omega), if_neg (by omega)]; exact eR
-- numbers of the field
def FF (L : LLx) : Prop := ∀ q ∈ L, ∀ x ∈ q, 0 ≤ x ∧ x ≤ 10006
theorem FF.row {L : LLx} (h : FF L) (i : Nat) : ∀ x ∈ L.getD i [], 0 ≤ x ∧ x ≤ 10006 := by
  by_cases hi : i < L.length
  · rw [getD_lt _ _ hi]; exact h _ (List.getElem_mem hi)
  · rw [List.getD_eq_getElem?_getD, List.getElem?_eq_none (by omega)]; simp
theorem FF.set {L : LLx} (h : FF L) (i : Nat) {r : List Int} (hr : ∀ x ∈ r, 0 ≤ x ∧ x ≤ 10006) : FF (L.set i r) := by
  intro q hq
  rcases List.mem_or_eq_of_mem_set hq with hq | rfl
  · exact h q hq
  · exact hr
theorem FF.swp {L : LLx} (h : FF L) (i j : Int) : FF (swp L i j) := (h.set _ (h.row _)).set _ (h.row _)
theorem FF.gt {L : LLx} (h : FF L) (i j : Int) : 0 ≤ gt L i j ∧ gt L i j ≤ 10006 := by
  unfold iv.gt
  have hr := h.row i.toNat
  generalize L.getD i.toNat [] = q at hr
  have := rd_range hr j.toNat
  simp only [rd, Int.toNat_natCast] at this ⊢
  exact this
theorem ivinF_range (x : Int) : 0 ≤ iv.inF x ∧ iv.inF x ≤ 10006 := by
  unfold iv.inF
  rw [inF_wrap]
  exact inF_range x
theorem scl_FF {b : Int} (hb : 0 ≤ b ∧ b ≤ 10006) {q : List Int} (h : ∀ x ∈ q, 0 ≤ x ∧ x ≤ 10006) : ∀ x ∈ sv.scl b q, 0 ≤ x ∧ x ≤ 10006 := by
  intro x hx
  obtain ⟨v, hv, rfl⟩ := List.mem_map.1 hx
  have m1 := fm_bound (a := 0) (by omega) (h v hv) hb
  rw [w64 (x := v * b) (by omega) (by omega)]
  exact tm_range m1.1
theorem elr_FF {f : Int} (q o : List Int) : ∀ x ∈ sv.elr f q o, 0 ≤ x ∧ x ≤ 10006 := by
  intro x hx
  simp only [sv.elr] at hx
  obtain ⟨i, hi, rfl⟩ := List.getElem_of_mem hx
  rw [List.getElem_zipWith]
  exact ivinF_range _
theorem rws_FF {m : Nat} {c : Int} (h0 : 0 ≤ c) (h1 : c < m) : ∀ (n : Nat) (x : Int) (L R : LLx), Sq m L → FF L → 0 ≤ x → (n : Int) + x = m → FF (rws m c n x L R).1
  | 0, x, L, R, _, h, _, _ => h
  | n + 1, x, L, R, hL, h, g0, g1 => by
    unfold rws
    split
    · exact rws_FF h0 h1 n _ _ _ hL h (by omega) (by omega)
    · next c1 =>
      split
      · exact rws_FF h0 h1 n _ _ _ hL h (by omega) (by omega)
      · rw [el_eq hL _ x c c1 h0 h1 g0 (by omega)]
        refine rws_FF h0 h1 n _ _ _ (hL.set _ (by omega) ?_) (h.set _ (elr_FF _ _)) (by omega) (by omega)
        rw [elr_len _ _ _ (by rw [hL.at x g0 (by omega), hL.at c h0 h1])]
        exact hL.at x g0 (by omega)
theorem drop_glue {m : Nat} : ∀ {L R : LLx}, R.length = L.length → (∀ q ∈ L, q.length = m) → (glue L R).map (List.drop m) = R
  | [], [], _, _ => rfl
  | [], _ :: _, h, _ => by simp at h
  | _ :: _, [], h, _ => by simp at h
  | a :: L, b :: R, h, hq => by
    have := drop_glue (m := m) (L := L) (R := R) (by simpa using h) (fun q h => hq q (by simp [h]))
    have e := hq a (by simp)
    simp only [glue, List.zipWith_cons_cons, List.map_cons]
    simp only [glue] at this
    rw [this, ← e, List.drop_left]
theorem Sq_mem {m : Nat} {L : LLx} (h : Sq m L) : ∀ q ∈ L, q.length = m := by
  intro q hq
  obtain ⟨i, hi, rfl⟩ := List.getElem_of_mem hq
  have := h.2 i (by rw [← h.1]; exact hi)
  rw [getD_lt _ _ hi] at this
  exact this
/-- Both ways, in lockstep. -/
theorem lock (inv inv' : Nat → Int → Option Int) (m : Nat) (hi : ∀ x, 0 ≤ x ∧ x ≤ 10006 → Ev (fun k => inv k x) (invM x)) (hi' : ∀ x, 0 ≤ x ∧ x ≤ 10006 → Ev (fun k => inv' k x) (invM x)) :
    ∀ (n : Nat) (c : Int) (L R : LLx) (p : Int), Sq m L → Sq m R → FF L → (n : Int) + c = m → 0 ≤ c →
      ∃ (Z : LLx) (d : Int), Ev (fun k => iv.go (inv k) m n c L R p) (Z, d) ∧ Ev (fun k => sv.slv (inv' k) m n c (glue L R) p) (d, Z) ∧ Z.length ≤ m ∧ ∀ q ∈ Z, q.length ≤ m
  | 0, c, L, R, p, hL, hR, _, _, _ => by
    refine ⟨R, p, ?_, ?_, by rw [hR.1]; exact Nat.le_refl _, fun q hq => by rw [Sq_mem hR q hq]; exact Nat.le_refl _⟩
    · simp only [iv.go]; exact Ev.now _
    · simp only [sv.slv]
      rw [drop_glue (by rw [hL.1, hR.1]) (Sq_mem hL)]
      exact Ev.now _
  | n + 1, c, L, R, p, hL, hR, hF, g1, g0 => by
    have step : ∀ (L R : LLx) (p : Int), Sq m L → Sq m R → FF L → ∃ (Z : LLx) (d : Int), Ev (fun k => go2 (inv k) m (iv.go (inv k) m n) c L R p) (Z, d) ∧ Ev (fun k => sv.slv2 (inv' k) m (sv.slv (inv' k) m n) c (glue L R) p) (d, Z) ∧ Z.length ≤ m ∧ ∀ q ∈ Z, q.length ≤ m := by
      intro L R p hL hR hF
      have hc : c < m := by omega
      have e : R.length = L.length := by rw [hL.1, hR.1]
      have hcl : c.toNat < L.length := by rw [hL.1]; omega
      have a1 := hL.at c g0 hc
      have a2 := hR.at c g0 hc
      have hg := hF.gt c c
      have hb := invM_range hg
      obtain ⟨b, hbe⟩ : ∃ b, invM (gt L c c) = b := ⟨_, rfl⟩
      rw [hbe] at hb
      have hL' : Sq m (L.set c.toNat (sv.scl b (L.getD c.toNat []))) := hL.set _ (by omega) (by rw [scl_len]; exact a1)
      have hR' : Sq m (R.set c.toNat (sv.scl b (R.getD c.toNat []))) := hR.set _ (by omega) (by rw [scl_len]; exact a2)
      have hF' : FF (L.set c.toNat (sv.scl b (L.getD c.toNat []))) := hF.set _ (scl_FF hb (hF.row _))
      obtain ⟨r1, r2, r3⟩ := rws_glue m c g0 hc (sv.scl b (L.getD c.toNat [])) (sv.scl b (R.getD c.toNat [])) m 0 _ _ hL' hR' (by omega) (by omega) (by rw [getD_set L _ _ _ hcl, if_pos rfl]) (by rw [getD_set R _ _ _ (by rw [e]; exact hcl), if_pos rfl])
      have r4 := rws_FF (m := m) (c := c) g0 hc m 0 _ (R.set c.toNat (sv.scl b (R.getD c.toNat []))) hL' hF' (by omega) (by omega)
      obtain ⟨Z, d, e1, e2, z1, z2⟩ := lock inv inv' m hi hi' n (c + 1) _ _ (Int.tmod (wrap64 (p * gt L c c)) 10007) r2 r3 r4 (by omega) (by omega)
      refine ⟨Z, d, ?_, ?_, z1, z2⟩
      · simp only [go2]
        refine Ev.bind (hi _ hg) ?_
        rw [hbe, sc_eq hL b c g0 hc, sc_eq hR b c g0 hc]
        exact e1
      · simp only [sv.slv2]
        rw [gt_glue hL hR c c g0 hc g0 hc]
        refine Ev.bind (hi' _ hg) ?_
        rw [hbe, glue_at L R e c.toNat hcl, scl_append, ← glue_set _ _ _ _ _ e, r1]
        exact e2
    have hc : c < m := by omega
    unfold iv.go sv.slv
    rw [piv_glue hL hR c g0 hc (n + 1) c g0 (by omega)]
    have hp := piv_range c L (n + 1) c
    by_cases c1 : piv c (n + 1) c L = (m : Int)
    · refine ⟨[], 0, ?_, ?_, by simp, by simp⟩
      · simp only [if_pos c1]; exact Ev.now _
      · simp only [if_pos c1]; exact Ev.now _
    · simp only [if_neg c1]
      by_cases c2 : piv c (n + 1) c L = c
      · simp only [if_pos c2]
        exact step L R p hL hR hF
      · simp only [if_neg c2]
        rw [swp_glue hL hR _ c (by omega) (by omega) g0 hc]
        exact step _ _ _ (hL.swp _ _ (by omega) (by omega) g0 hc) (hR.swp _ _ (by omega) (by omega) g0 hc) (hF.swp _ _)
theorem unit_at (n : Nat) : ∀ (k i j : Nat), j < k → (addD 1 i (List.replicate k (List.replicate n 0))).getD j [] = (List.replicate n (0 : Int)).set (i + j) 1
  | 0, _, _, h => absurd h (Nat.not_lt_zero _)
  | k + 1, i, 0, _ => by
    rw [List.replicate_succ]
    simp only [addD, List.getD_cons_zero, rd_zeros, Nat.add_zero]
    rfl
  | k + 1, i, j + 1, h => by
    rw [List.replicate_succ]
    simp only [addD, List.getD_cons_succ]
    rw [unit_at n k (i + 1) j (by omega), show i + 1 + j = i + (j + 1) by omega]
theorem unit_Sq (n : Nat) : Sq n (addD 1 0 (List.replicate n (List.replicate n 0))) :=
  ⟨by rw [addD_length, List.length_replicate], fun i hi => by rw [unit_at n n 0 i hi, List.length_set, List.length_replicate]⟩
theorem start_glue {n : Nat} {l : LLx} (h : Sq n l) : sv.start l = glue l (addD 1 0 (List.replicate n (List.replicate n 0))) := by
  have e : (addD 1 0 (List.replicate n (List.replicate n 0))).length = l.length := by rw [(unit_Sq n).1, h.1]
  refine List.ext_getElem (by rw [sv.start_len, glue_len _ _ e]) fun i h1 h2 => ?_
  have hi : i < l.length := by rw [← sv.start_len l]; exact h1
  rw [← getD_lt _ _ h1, ← getD_lt _ _ h2, sv.start_at l i hi, glue_at _ _ e i hi, unit_at n n 0 i (by rw [← h.1]; exact hi), Nat.zero_add, h.1]
theorem FM_Sq {n : Nat} {l : LLx} (h : FM n l) : Sq n l :=
  ⟨h.1, fun i hi => by rw [getD_lt _ _ (by rw [h.1]; exact hi)]; exact (h.2 _ (List.getElem_mem _)).1⟩
theorem FM_FF {n : Nat} {l : LLx} (h : FM n l) : FF l := fun q hq => (h.2 q hq).2
end iv2
end Go.Proofs.Ytifmdgffimckgaa.Lib
