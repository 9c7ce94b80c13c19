/- Two ways to a rank modulo a prime, in lockstep; the rows of a count of colourings. -/
import Derived.Test.YtcbomfkimohlfaaLibCol
import Derived.Test.YtcbomfkimohlfaaLibInv
import Derived.Test.YtcbomfkimohlfaaLibRk
set_option linter.unusedVariables false
set_option linter.unusedSimpArgs false
namespace Go.Proofs.Ytcbomfkimohlfaa.Lib
open Go.RowKit Go.Proofs.YtcbomfkimohlfaaW.PrintWords Go.Proofs.Ytcbomfkimohlfaa.LibMx Go.Proofs.Ytcbomfkimohlfaa.LibRk
namespace rk2
open iv
abbrev LLx := List (List Int)
theorem tmod_em {x p : Int} (hp : 0 < p) : Int.tmod (Int.tmod x p + p) p = x % p := by
  have hb := Int.lt_tmod_of_pos x hp
  rw [Int.tmod_eq_emod_of_nonneg (by omega), Int.tmod_def]
  rw [show x - p * x.tdiv p + p = x + p * (1 - x.tdiv p) by rw [Int.mul_sub, Int.mul_one]; omega]
  exact Int.add_mul_emod_self_left ..
def elI (p f : Int) (r o : List Int) : List Int := List.zipWith (fun v u => Int.tmod (wrap64 (v + wrap64 (wrap64 (p - f) * u))) p) r o
theorem elt_eq {p f v u : Int} (hp : 3 ≤ p ∧ p ≤ 97) (hf : 0 ≤ f ∧ f ≤ p - 1) (hv : 0 ≤ v ∧ v ≤ p - 1) (hu : 0 ≤ u ∧ u ≤ p - 1) :
    Int.tmod (wrap64 (Int.tmod (wrap64 (v - wrap64 (f * u))) p + p)) p = Int.tmod (wrap64 (v + wrap64 (wrap64 (p - f) * u))) p := by
  have m1 := fm_bound (a := 0) (v := f) (b := u) (by omega) (by omega) (by omega)
  have m2 := fm_bound (a := 0) (v := p - f) (b := u) (by omega) (by omega) (by omega)
  have t1 := Int.tmod_lt_of_pos (v - f * u) (b := p) (by omega)
  have t2 := Int.lt_tmod_of_pos (v - f * u) (b := p) (by omega)
  rw [w64 (x := f * u) (by omega) (by omega), w64 (x := v - f * u) (by omega) (by omega), w64 (x := p - f) (by omega) (by omega), w64 (x := (p - f) * u) (by omega) (by omega),
    w64 (x := v + (p - f) * u) (by omega) (by omega), w64 (x := Int.tmod (v - f * u) p + p) (by omega) (by omega), tmod_em (by omega), Int.tmod_eq_emod_of_nonneg (by omega),
    show v + (p - f) * u = (v - f * u) + p * u by rw [Int.sub_mul]; omega]
  exact (Int.add_mul_emod_self_left ..).symm
theorem elt_range {p f v u : Int} (hp : 3 ≤ p ∧ p ≤ 97) (hf : 0 ≤ f ∧ f ≤ p - 1) (hv : 0 ≤ v ∧ v ≤ p - 1) (hu : 0 ≤ u ∧ u ≤ p - 1) :
    0 ≤ Int.tmod (wrap64 (v + wrap64 (wrap64 (p - f) * u))) p ∧ Int.tmod (wrap64 (v + wrap64 (wrap64 (p - f) * u))) p ≤ p - 1 := by
  have m2 := fm_bound (a := 0) (v := p - f) (b := u) (by omega) (by omega) (by omega)
  rw [w64 (x := p - f) (by omega) (by omega), w64 (x := (p - f) * u) (by omega) (by omega), w64 (x := v + (p - f) * u) (by omega) (by omega)]
  exact tmod_p hp.1 (by omega)
theorem el_same {p f : Int} (hp : 3 ≤ p ∧ p ≤ 97) (hf : 0 ≤ f ∧ f ≤ p - 1) : ∀ (r o : List Int), InP p r → InP p o → rk.elS p f r o = elI p f r o ∧ InP p (elI p f r o)
  | [], _, _, _ => ⟨by simp [rk.elS, elI], by simp [elI, InP]⟩
  | _ :: _, [], _, _ => ⟨by simp [rk.elS, elI], by simp [elI, InP]⟩
  | v :: r, u :: o, hr, ho => by
    obtain ⟨e1, e2⟩ := el_same hp hf r o (fun x hx => hr x (by simp [hx])) (fun x hx => ho x (by simp [hx]))
    have hv := hr v (by simp)
    have hu := ho u (by simp)
    simp only [rk.elS, elI] at e1 e2
    refine ⟨?_, ?_⟩
    · simp only [rk.elS, elI, List.zipWith_cons_cons, e1, elt_eq hp hf hv hu]
    · intro x hx
      simp only [elI, List.zipWith_cons_cons, List.mem_cons] at hx
      rcases hx with rfl | hx
      · exact elt_range hp hf hv hu
      · exact e2 x hx
def elN (p f : Int) (o : List Int) : Nat → Int → List Int → List Int
  | 0, _, r => r
  | n + 1, y, r => elN p f o n (y + 1) (r.set y.toNat (Int.tmod (wrap64 (rd r y + wrap64 (wrap64 (p - f) * rd o y))) p))
theorem el_row (p f x c : Int) (hxc : x.toNat ≠ c.toNat) : ∀ (n : Nat) (y : Int) (L : LLx), x.toNat < L.length → rk.el1 p f x c n y L = L.set x.toNat (elN p f (L.getD c.toNat []) n y (L.getD x.toNat []))
  | 0, y, L, h => by
    unfold rk.el1 elN
    rw [iv2.getD_lt _ _ h]
    simp
  | n + 1, y, L, h => by
    unfold rk.el1 elN
    rw [el_row p f x c hxc n (y + 1) _ (by unfold pt; rw [List.length_set]; exact h)]
    unfold pt gt
    rw [iv2.set_set_same, getD_set L x.toNat c.toNat _ h, if_neg hxc, getD_set L x.toNat x.toNat _ h, if_pos rfl]
theorem elN_eq (p f : Int) : ∀ (q o pr po : List Int) (y : Int), y = (pr.length : Int) → po.length = pr.length → o.length = q.length → elN p f (po ++ o) q.length y (pr ++ q) = pr ++ elI p f q o
  | [], [], pr, po, y, h, _, _ => by simp [elN, elI]
  | [], _ :: _, _, _, _, _, _, h => by simp at h
  | _ :: _, [], _, _, _, _, _, h => by simp at h
  | x :: q, u :: o, pr, po, y, h, h2, h3 => by
    rw [List.length_cons]
    unfold elN
    rw [iv2.rd_mid' pr q x y h, iv2.rd_mid' po o u y (by omega), iv2.set_mid pr q x _ y h]
    have := elN_eq p f q o (pr ++ [Int.tmod (wrap64 (x + wrap64 (wrap64 (p - f) * u))) p]) (po ++ [u]) (y + 1) (by simp; omega) (by simp; omega) (by simpa using h3)
    rw [List.append_assoc po, List.singleton_append] at this
    rw [this]
    simp [elI]
theorem el1_eq {m : Nat} {L : LLx} (hL : Sq m L) (p f x c : Int) (hxc : x ≠ c) (h0 : 0 ≤ c) (h1 : c < m) (g0 : 0 ≤ x) (g1 : x < m) : rk.el1 p f x c m 0 L = L.set x.toNat (elI p f (L.getD x.toNat []) (L.getD c.toNat [])) := by
  rw [el_row p f x c (by omega) m 0 L (by rw [hL.1]; omega)]
  have h := elN_eq p f (L.getD x.toNat []) (L.getD c.toNat []) [] [] 0 (by simp) rfl (by rw [hL.at c h0 h1, hL.at x g0 g1])
  rw [hL.at x g0 g1, List.nil_append, List.nil_append, List.nil_append] at h
  rw [h]
theorem elI_len (p f : Int) (r o : List Int) (h : o.length = r.length) : (elI p f r o).length = r.length := by simp [elI, h]
def FP (p : Int) (L : LLx) : Prop := ∀ q ∈ L, InP p q
theorem FP.row {p : Int} {L : LLx} (h : FP p L) (i : Nat) : InP p (L.getD i []) := by
  by_cases hi : i < L.length
  · rw [iv2.getD_lt _ _ hi]; exact h _ (List.getElem_mem hi)
  · rw [List.getD_eq_getElem?_getD, List.getElem?_eq_none (by omega)]; simp [InP]
theorem FP.set {p : Int} {L : LLx} (h : FP p L) (i : Nat) {r : List Int} (hr : InP p r) : FP p (L.set i r) := by
  intro q hq
  rcases List.mem_or_eq_of_mem_set hq with hq | rfl
  · exact h q hq
  · exact hr
theorem FP.swp {p : Int} {L : LLx} (h : FP p L) (i j : Int) : FP p (swp L i j) := (h.set _ (h.row _)).set _ (h.row _)
theorem FP.gt {p : Int} {L : LLx} (hp : 3 ≤ p) (h : FP p L) (i j : Int) : 0 ≤ gt L i j ∧ gt L i j ≤ p - 1 := by
  unfold iv.gt
  have hr := h.row i.toNat
  generalize L.getD i.toNat [] = q at hr
  by_cases hj : j.toNat < q.length
  · have := hr.rd j.toNat hj
    simp only [rd, Int.toNat_natCast] at this ⊢
    exact this
  · simp only [rd]
    rw [List.getD_eq_getElem?_getD, List.getElem?_eq_none (by omega)]
    simp only [Option.getD_none]; omega
theorem swp_comm (L : LLx) (i j : Int) : swp L i j = swp L j i := by
  unfold swp
  by_cases h : i.toNat = j.toNat
  · rw [h]
  · exact List.set_comm _ _ h
theorem fac_range {p a v : Int} (hp : 3 ≤ p ∧ p ≤ 97) (ha : 0 ≤ a ∧ a ≤ p - 1) (hv : 0 ≤ v ∧ v ≤ p - 1) : 0 ≤ Int.tmod (wrap64 (a * v)) p ∧ Int.tmod (wrap64 (a * v)) p ≤ p - 1 := by
  have m1 := fm_bound (a := 0) (v := a) (b := v) (by omega) (by omega) (by omega)
  rw [w64 (x := a * v) (by omega) (by omega)]
  exact tmod_p hp.1 m1.1
theorem rows_same {p v : Int} {m : Nat} (hp : 3 ≤ p ∧ p ≤ 97) (hv : 0 ≤ v ∧ v ≤ p - 1) (c rank : Int) (h0 : 0 ≤ rank) (h1 : rank < m) (o : List Int) : ∀ (n : Nat) (x : Int) (L : LLx), Sq m L → FP p L → rank < x → (n : Int) + x = m → L.getD rank.toNat [] = o →
    rk.rowsS p v c o n x L = rk.rowsI p v c rank m n x L ∧ Sq m (rk.rowsI p v c rank m n x L) ∧ FP p (rk.rowsI p v c rank m n x L)
  | 0, x, L, hL, hF, _, _, _ => ⟨rfl, hL, hF⟩
  | n + 1, x, L, hL, hF, g0, g1, eo => by
    unfold rk.rowsS rk.rowsI
    have hf := fac_range hp (hF.gt hp.1 x c) hv
    obtain ⟨e1, e2⟩ := el_same hp hf (L.getD x.toNat []) o (hF.row _) (by rw [← eo]; exact hF.row _)
    rw [e1, el1_eq hL p _ x rank (by omega) h0 h1 (by omega) (by omega), eo]
    have a1 := hL.at x (by omega) (by omega)
    have a3 := hL.at rank h0 h1
    rw [eo] at a3
    refine rows_same hp hv c rank h0 h1 o n (x + 1) _ (hL.set _ (by omega) ?_) (hF.set _ e2) (by omega) (by omega) ?_
    · rw [elI_len _ _ _ _ (by rw [a1, a3])]; exact a1
    · rw [getD_set L _ _ _ (by rw [hL.1]; omega), if_neg (by omega)]; exact eo
theorem piv_ne (c : Int) (L : LLx) : ∀ (n : Nat) (t : Int), iv.piv c n t L ≠ t + n → gt L (iv.piv c n t L) c ≠ 0
  | 0, t, h => by simp [iv.piv] at h
  | n + 1, t, h => by
    unfold iv.piv at h ⊢
    split
    · rename_i e
      rw [if_pos e] at h
      exact piv_ne c L n (t + 1) (by omega)
    · rename_i e; exact e
theorem gt_swp {m : Nat} {L : LLx} (hL : Sq m L) (i j c : Int) (h0 : 0 ≤ i) (h1 : i < m) (g0 : 0 ≤ j) (g1 : j < m) : gt (swp L i j) j c = gt L i c := by
  unfold gt swp
  rw [getD_set _ _ _ _ (by rw [List.length_set, hL.1]; omega), if_pos rfl]
/-- Both ways, in lockstep. -/
theorem lock (s s' : Nat → Int → Option Int) (g : Int → Int) (p : Int) (hp : 3 ≤ p ∧ p ≤ 97) (m : Nat) (hi : ∀ x, 1 ≤ x ∧ x ≤ p - 1 → Ev (fun k => s k x) (g x)) (hi' : ∀ x, 1 ≤ x ∧ x ≤ p - 1 → Ev (fun k => s' k x) (g x)) (hg : ∀ x, 1 ≤ x ∧ x ≤ p - 1 → 0 ≤ g x ∧ g x ≤ p - 1) :
    ∀ (n : Nat) (c rank : Int) (L : LLx), Sq m L → FP p L → (n : Int) + c = m → 0 ≤ rank → rank ≤ c →
      ∃ r : Int, Ev (fun k => rk.goS p (s k) m n c rank L) r ∧ Ev (fun k => rk.goI p (s' k) m n c rank L) r
  | 0, c, rank, L, _, _, _, _, _ => ⟨rank, by simp only [rk.goS]; exact Ev.now _, by simp only [rk.goI]; exact Ev.now _⟩
  | n + 1, c, rank, L, hL, hF, g1, g0, g2 => by
    unfold rk.goS rk.goI
    have hpv := piv_range c L (m - rank.toNat) rank
    have hne := piv_ne c L (m - rank.toNat) rank
    by_cases c1 : iv.piv c (m - rank.toNat) rank L = (m : Int)
    · simp only [if_pos c1]
      exact lock s s' g p hp m hi hi' hg n (c + 1) rank L hL hF (by omega) g0 (by omega)
    · simp only [if_neg c1]
      generalize iv.piv c (m - rank.toNat) rank L = pv at hpv hne c1
      rw [swp_comm L rank pv]
      have hL1 : Sq m (swp L pv rank) := hL.swp _ _ (by omega) (by omega) g0 (by omega)
      have hF1 : FP p (swp L pv rank) := hF.swp _ _
      have hx := hF.gt hp.1 pv c
      have hx0 := hne (by omega)
      have hgt := gt_swp hL pv rank c (by omega) (by omega) g0 (by omega)
      have hv := hg (gt L pv c) (by omega)
      obtain ⟨e1, e2, e3⟩ := rows_same (m := m) hp hv c rank g0 (by omega) _ (m - (rank.toNat + 1)) (rank + 1) (swp L pv rank) hL1 hF1 (by omega) (by omega) rfl
      obtain ⟨r, r1, r2⟩ := lock s s' g p hp m hi hi' hg n (c + 1) (rank + 1) _ e2 e3 (by omega) (by omega) (by omega)
      refine ⟨r, ?_, ?_⟩
      · simp only [rk.goS2]
        rw [hgt]
        refine Ev.bind (hi _ (by omega)) ?_
        rw [e1]
        exact r1
      · simp only [rk.goI2]
        rw [hgt]
        exact Ev.bind (hi' _ (by omega)) r2
theorem unit_in (p : Int) (hp : 3 ≤ p) (m x : Nat) : inAll p ((List.replicate m (0 : Int)).set x 1) = true := by
  refine List.all_eq_true.2 fun y hy => inB_iff.2 ?_
  rcases List.mem_or_eq_of_mem_set hy with h1 | rfl
  · rw [(List.mem_replicate.1 h1).2]; omega
  · omega
theorem colAll_InP {p : Int} (hp : 3 ≤ p) (n : Nat) : ∀ (l acc : List Int), acc.length = n → (∀ x ∈ l, 1 ≤ absI x ∧ absI x ≤ (n : Int) - 1) → InP p acc → InP p (colAll p l acc)
  | [], acc, _, _, h => h
  | x :: l, acc, hl, hx, h => by
    rw [colAll]
    have h1 := hx x (by simp)
    exact colAll_InP hp n l _ (by rw [colStep_length]; exact hl) (fun y hy => hx y (by simp [hy])) (colStep_InP hp h (by rw [hl]; exact h1))
/-- The rows, by whatever comes to colAll. -/
theorem rows_ev (s s' : Nat → List Int → Option (List Int)) (l : List Int) (p : Int) (hp : 3 ≤ p ∧ p ≤ 97) (m : Nat) (hx : ∀ x ∈ l, 1 ≤ absI x ∧ absI x ≤ (m : Int) - 1)
    (hs : ∀ u : List Int, u.length = m → inAll p u = true → Ev (fun k => s k u) (colAll p l u)) (hs' : ∀ u : List Int, u.length = m → inAll p u = true → Ev (fun k => s' k u) (colAll p l u)) :
    ∀ (n : Nat) (x : Int) (L : LLx), 0 ≤ x → (n : Int) + x = m → L.length = x.toNat → (∀ q ∈ L, q.length = m ∧ InP p q) →
      ∃ R : LLx, Ev (fun k => rk.rows (s k) p m n x L) R ∧ Ev (fun k => rk.rows (s' k) p m n x L) R ∧ R.length = m ∧ ∀ q ∈ R, q.length = m ∧ InP p q
  | 0, x, L, h0, h1, hl, hq => ⟨L, by simp only [rk.rows]; exact Ev.now _, by simp only [rk.rows]; exact Ev.now _, by omega, hq⟩
  | n + 1, x, L, h0, h1, hl, hq => by
    have ul : ((List.replicate m (0 : Int)).set x.toNat 1).length = m := by rw [List.length_set, List.length_replicate]
    have ui := unit_in p hp.1 m x.toNat
    have cl : (colAll p l ((List.replicate m (0 : Int)).set x.toNat 1)).length = m := by rw [colAll_length, ul]
    have ci := colAll_InP hp.1 m l _ ul hx (inAll_InP ui)
    have ev := hs _ ul ui
    have ev' := hs' _ ul ui
    generalize colAll p l ((List.replicate m (0 : Int)).set x.toNat 1) = own at cl ci ev ev'
    have hr := ci.rd x.toNat (by omega)
    rw [show ((x.toNat : Nat) : Int) = x by omega] at hr
    have hv := tmod_p (p := p) (x := wrap64 (wrap64 (rd own x + p) - 1)) hp.1 (by
      rw [w64 (x := rd own x + p) (by omega) (by omega), w64 (x := rd own x + p - 1) (by omega) (by omega)]; omega)
    obtain ⟨R, e1, e2, e3⟩ := rows_ev s s' l p hp m hx hs hs' n (x + 1) (L ++ [own.set x.toNat (Int.tmod (wrap64 (wrap64 (rd own x + p) - 1)) p)]) (by omega) (by omega) (by rw [List.length_append, hl, List.length_singleton]; omega)
      (fun q hq' => by
        rcases List.mem_append.1 hq' with h | h
        · exact hq q h
        · rw [List.mem_singleton] at h
          subst h
          exact ⟨by rw [List.length_set]; exact cl, ci.set _ hv⟩)
    refine ⟨R, ?_, ?_, e3⟩
    · simp only [rk.rows]
      refine Ev.bind ev ?_
      simp only [if_pos cl]
      exact e1
    · simp only [rk.rows]
      refine Ev.bind ev' ?_
      simp only [if_pos cl]
      exact e2
theorem FP_of {p : Int} {m : Nat} {R : LLx} (h1 : R.length = m) (h2 : ∀ q ∈ R, q.length = m ∧ InP p q) : Sq m R ∧ FP p R :=
  ⟨⟨h1, fun i hi => by rw [iv2.getD_lt _ _ (by omega)]; exact (h2 _ (List.getElem_mem _)).1⟩, fun q hq => (h2 q hq).2⟩
def invP (p x : Int) : Int := (rk.sr p 100 x 1).getD 0
theorem sr_all : ∀ p : Fin 98, 3 ≤ p.val → primeGo 12 (p.val : Int) 2 = true → ∀ x : Fin 98, 1 ≤ x.val → x.val < p.val →
    rk.sr (p.val : Int) 100 (x.val : Int) 1 = some (invP (p.val : Int) (x.val : Int)) ∧ 0 ≤ invP (p.val : Int) (x.val : Int) ∧ invP (p.val : Int) (x.val : Int) ≤ (p.val : Int) - 1 := by decide +kernel
theorem sr_ev {p : Int} (h : primeB p = true) (x : Int) (hx : 1 ≤ x ∧ x ≤ p - 1) : Ev (fun k => rk.sr p k x 1) (invP p x) ∧ 0 ≤ invP p x ∧ invP p x ≤ p - 1 := by
  have hp := primeB_range h
  simp only [primeB, Bool.and_eq_true] at h
  have := sr_all ⟨p.toNat, by omega⟩ (by simp only; omega) (by simp only [show ((p.toNat : Nat) : Int) = p by omega]; exact h.2) ⟨x.toNat, by omega⟩ (by simp only; omega) (by simp only; omega)
  simp only [show ((p.toNat : Nat) : Int) = p by omega, show ((x.toNat : Nat) : Int) = x by omega] at this
  exact ⟨Ev.of (fun k => rk.sr_mono p k x 1) this.1, this.2⟩
end rk2
end Go.Proofs.Ytcbomfkimohlfaa.Lib
