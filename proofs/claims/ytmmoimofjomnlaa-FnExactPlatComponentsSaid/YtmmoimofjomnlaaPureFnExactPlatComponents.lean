/- For every braid-shaped input the program's PlatComponents returns what the reference's returns and leaves its argument alone; no conditions. -/
import Derived.Test.YtmmoimofjomnlaaMFnExactPlatComponentsx6
import Derived.Test.YtmmoimofjomnlaaLib
import Derived.Test.YtmmoimofjomnlaaLibCyc
import Derived.Test.YtmmoimofjomnlaaLibPlax
import Derived.Test.YtmmoimofjomnlaaLibPure
set_option linter.unusedVariables false
set_option linter.unusedSimpArgs false
set_option maxRecDepth 10000
set_option maxHeartbeats 4000000
namespace Go.Proofs.Ytmmoimofjomnlaa.PureFnExactPlatComponents
open Go.RowKit Go.Proofs.Ytmmoimofjomnlaa.MFnExactPlatComponents Go.Proofs.YtmmoimofjomnlaaW.PrintWords Go.Proofs.Ytmmoimofjomnlaa.Lib

theorem rdL1_eq (xs : List (List Int)) (i : Int) : rd_L1 xs i = rdl xs i := by
  have h : rd_L1 xs i = xs.getD i.toNat [] := by unfold rd_L1; rfl
  rw [h, rdl]

/-! ### laws_szInt64S -/
theorem laws_szInt64S.eq (l : List Int) (x : Int) (h0 : 0 ≤ x) (h1 : x ≤ 1048576) (hl : l.length ≤ maxLen) : laws_szInt64S.f l x = some (if x - l.length < 0 then -1 else x - l.length) := by
  unfold maxLen at hl
  simp (disch := omega) only [laws_szInt64S.f, w64]
  split <;> rfl

/-! ### laws_szBraid -/
theorem laws_szBraid.eq (n : Int) (l : List Int) (x : Int) (h0 : 0 ≤ x) (h1 : x ≤ 1048576) (hl : l.length ≤ maxLen) : laws_szBraid.f n l x = some (if x - l.length < 0 then -1 else x - l.length) := by
  simp (disch := assumption) only [laws_szBraid.f, laws_szInt64S.eq, Option.bind_some]
  by_cases h : x - l.length < 0
  · simp [h]
  · simp [h]

/-! ### spec_l01In -/
theorem spec_l01In.eq (a lo hi : Int) : spec_l01In.f a lo hi = some (inB a lo hi) := by
  unfold spec_l01In.f inB
  by_cases h : lo ≤ a <;> simp [h]

/-! ### spec_l01Is -/
theorem spec_l01Is.letter (n x : Int) (h1 : 1 ≤ n) (h8 : n ≤ 8) (hx : -9223372036854775808 ≤ x ∧ x ≤ 9223372036854775807) : (inB x 1 (n - 1) || inB (wrap64 (-x)) 1 (n - 1)) = letterB n x := by
  unfold inB letterB inB wrap64
  rw [Bool.eq_iff_iff]; simp; omega
theorem spec_l01Is.ev0 (n : Int) (l : List Int) (h1 : 1 ≤ n) (h8 : n ≤ 8) (hb : l.length ≤ 200) (hf : Fits l) : ∀ (d i : Nat), i + d = l.length →
    Ev (fun k => spec_l01Is.l0 k (i : Int) n l) ((l.drop i).all (letterB n)) := by
  intro d
  induction d with
  | zero =>
    intro i hi
    refine Ev.succ ?_
    simp (disch := omega) only [spec_l01Is.l0, if_neg]
    exact Ev.pure (by rw [List.drop_of_length_le (by omega)]; rfl)
  | succ d ih =>
    intro i hi
    refine Ev.succ ?_
    have hx := hf (rd l i) (rd_mem l i (by omega))
    have hl := spec_l01Is.letter n (rd l i) h1 h8 hx
    have hw : wrap64 (n - 1) = n - 1 := w64 (by omega) (by omega)
    have hw2 : wrap64 ((i : Int) + 1) = ((i + 1 : Nat) : Int) := w64 (by omega) (by omega)
    simp (disch := omega) only [spec_l01Is.l0, if_pos, hw, hw2, spec_l01In.eq, Option.bind_some]
    rw [drop_rd l i (by omega), List.all_cons, ← hl]
    cases h : inB (rd l i) 1 (n - 1) with
    | true => simp only [if_true, Bool.true_or, Bool.true_and]; exact ih (i + 1) (by omega)
    | false =>
      cases h' : inB (wrap64 (-(rd l i))) 1 (n - 1) with
      | true => simp only [if_true, Bool.false_or, Bool.true_and, Bool.false_eq_true, if_false]; exact ih (i + 1) (by omega)
      | false => exact Ev.pure (by simp)
theorem spec_l01Is.ev (n : Int) (l : List Int) (hf : Fits l) : Ev (fun k => spec_l01Is.f k n l) (isBraidB n l) := by
  simp only [spec_l01Is.f, spec_l01In.eq, Option.bind_some]
  unfold isBraidB
  cases hn : inB n 1 8 with
  | false =>
    refine Ev.succ ?_
    simp [spec_l01Is.j0]
    exact Ev.now _
  | true =>
    obtain ⟨h1, h8⟩ := inB_iff.1 hn
    refine Ev.succ ?_
    simp only [if_true, spec_l01Is.j0, Bool.true_and]
    by_cases hl : l.length ≤ 200
    · have : ¬ ((l.length : Int) > 200) := by omega
      simp only [this, decide_false, Bool.false_eq_true, if_false, hl, decide_true, Bool.true_and]
      exact Ev.to (spec_l01Is.ev0 n l h1 h8 hl hf l.length 0 (by omega)) (by simp)
    · have : ((l.length : Int) > 200) := by omega
      simp only [this, decide_true, if_true, hl, decide_false, Bool.false_and]
      exact Ev.now _

/-! ### spec_l01Perm -/
-- use LibPure
theorem spec_l10Pure.fill (n : Int) (hn : 0 ≤ n ∧ n ≤ 8) : fillL n.toNat = iota 0 n.toNat ++ List.replicate (8 - n.toNat) 0 := by
  have h : ∀ m : Fin 9, fillL m.val = iota 0 m.val ++ List.replicate (8 - m.val) 0 := by decide
  exact h ⟨n.toNat, by omega⟩
theorem spec_l10Pure.sw1 {n : Nat} {xs z : List Int} (h : xs.length = n) {x : Int} (hn : n ≤ 8) (hx : 1 ≤ absI x ∧ absI x < (n : Int)) : sw (xs ++ z) x = swI xs x ++ z := by
  have hb := absI_eq x
  have h8 : -8 ≤ x ∧ x ≤ 8 := by split at hb <;> omega
  have W : wrap64 (-x) = -x := w64 (by omega) (by omega)
  have ha : mx x (-x) = absI x := rfl
  have w1 : wrap64 (absI x - 1) = absI x - 1 := w64 (by omega) (by omega)
  simp only [sw, W, ha, w1, swI]
  rw [rd_app xs z (by omega) (by omega), rd_app xs z (x := absI x) (by omega) (by omega), List.set_append_left _ _ (by omega), List.set_append_left _ _ (by simp; omega), List.set_comm _ _ (by omega)]
theorem spec_l10Pure.fold {n : Nat} (hn : n ≤ 8) (z : List Int) {l : List Int} (hl : ∀ x ∈ l, 1 ≤ absI x ∧ absI x < (n : Int)) : ∀ {xs : List Int}, xs.length = n → l.foldl sw (xs ++ z) = l.foldl swI xs ++ z := by
  induction l with
  | nil => intro xs h; rfl
  | cons x l ih =>
    intro xs h
    rw [List.foldl_cons, List.foldl_cons, spec_l10Pure.sw1 h hn (hl x (by simp))]
    exact ih (fun y hy => hl y (by simp [hy])) (by simp [swI, h])
theorem spec_l10Pure.perm {n : Nat} (hn : n ≤ 8) {s : List Int} (hs : InN n s) (z : List Int) : ∀ k, k ≤ n → permGo (s ++ z) k = endsGo s n k ++ List.replicate (8 - n) 0
  | 0, _ => by
    rw [permGo, endsGo, a8, List.replicate_append_replicate]
    congr 1; omega
  | k + 1, h => by
    have hr := rd_in hs (x := (k : Int)) (by omega) (by omega)
    have hl := endsGo_length s n k
    rw [permGo, endsGo, spec_l10Pure.perm hn hs z k (by omega), rd_app s z (by omega) (by rw [hs.1]; omega), List.set_append_left _ _ (by omega)]
theorem spec_l10Pure.permEq (n : Int) (hn : 0 ≤ n ∧ n ≤ 8) {l : List Int} (hl : ∀ x ∈ l, 1 ≤ absI x ∧ absI x < (n.toNat : Int)) : permL n l = endsGo (atL n.toNat l) n.toNat n.toNat ++ List.replicate (8 - n.toNat) 0 := by
  rw [permL, spec_l10Pure.fill n hn, spec_l10Pure.fold (by omega) _ hl (iota_length 0 _)]
  exact spec_l10Pure.perm (by omega) (atL_in hl) _ _ (Nat.le_refl _)
theorem spec_l10Pure.base (n : Int) (hn : 0 ≤ n ∧ n ≤ 8) : endsGo (atL n.toNat []) n.toNat n.toNat = iota 0 n.toNat := by
  have h : ∀ m : Fin 9, endsGo (atL m.val []) m.val m.val = iota 0 m.val := by decide
  exact h ⟨n.toNat, by omega⟩

/-! ### spec_PlatComponents -/
-- use LibPlax
open Go.Proofs.Ytmmoimofjomnlaa.LibPlat
namespace plx
theorem ouf_at : ∀ k, k ≤ 16 → ∀ z : Nat, z < k → rd (plt.ouf k) (z : Int) = ((plat.ou z : Nat) : Int)
  | 0, _, z, h => by omega
  | k + 1, hk, z, h => by
    have hl := plt.ouf_length k
    rw [plt.ouf]
    by_cases e : z = k
    · subst e
      rw [rd_set_eq _ _ _ (by omega)]
      unfold plat.ou
      split <;> omega
    · rw [rd_set_ne _ _ _ _ e]
      exact ouf_at k (by omega) z (by omega)
theorem pr_at {n : Nat} (hn : n ≤ 8) (e8 : List Int) (E A : Nat → Nat) (hp : plat.Perm2 n E A) (he : ∀ z : Nat, z < n → rd e8 (z : Int) = ((E z : Nat) : Int)) : ∀ k, k ≤ n → ∀ z : Nat, z < k → rd (plt.pr (n : Int) e8 k) (z : Int) = ((n + E z : Nat) : Int) ∧ rd (plt.pr (n : Int) e8 k) ((n + E z : Nat) : Int) = (z : Int)
  | 0, _, z, h => by omega
  | k + 1, hk, z, h => by
    have hl := plt.pr_length (n : Int) e8 k
    have hE := hp.el k (by omega)
    have hz := hp.el z (by omega)
    rw [plt.pr, he k (by omega), show ((n : Int) + ((E k : Nat) : Int)).toNat = n + E k by omega]
    by_cases e : z = k
    · subst e
      rw [rd_set_ne _ _ _ _ (by omega), rd_set_eq _ _ _ (by omega), rd_set_eq _ _ _ (by rw [List.length_set]; omega)]
      exact ⟨by omega, rfl⟩
    · have hne : E z ≠ E k := fun h2 => e (by have h3 := hp.ae z (by omega); rw [h2, hp.ae k (by omega)] at h3; exact h3.symm)
      have ih := pr_at hn e8 E A hp he k (by omega) z (by omega)
      rw [rd_set_ne _ _ _ _ (by omega), rd_set_ne _ _ _ _ (by omega), rd_set_ne _ _ _ _ (by omega), rd_set_ne _ _ _ _ (by omega)]
      exact ih
theorem pr_po {n : Nat} (hn : n ≤ 8) (e8 : List Int) (E A : Nat → Nat) (hp : plat.Perm2 n E A) (he : ∀ z : Nat, z < n → rd e8 (z : Int) = ((E z : Nat) : Int)) (z : Nat) (hz : z < 2 * n) : rd (plt.pr (n : Int) e8 n) (z : Int) = ((plat.po n E A z : Nat) : Int) := by
  unfold plat.po
  by_cases e : z < n
  · rw [if_pos e]
    exact (pr_at hn e8 E A hp he n (Nat.le_refl _) z e).1
  · rw [if_neg e]
    have h1 := (pr_at hn e8 E A hp he n (Nat.le_refl _) (A (z - n)) (hp.al _ (by omega))).2
    rw [hp.ea _ (by omega), show n + (z - n) = z by omega] at h1
    exact h1
def Met (m : Nat) (met : List Bool) (M : Nat → Bool) : Prop := met.length = 16 ∧ ∀ z, z < m → met.getD z false = M z
theorem Met.up {m : Nat} {met : List Bool} {M : Nat → Bool} (h : Met m met M) (y : Nat) (hy : y < m) (hm : m ≤ 16) : Met m (met.set y true) (plat.up M y) := by
  refine ⟨by rw [List.length_set]; exact h.1, fun z hz => ?_⟩
  unfold plat.up
  rw [List.getD_eq_getElem?_getD, List.getElem?_set]
  by_cases e : z = y
  · subst e
    rw [if_pos rfl, if_pos (by rw [h.1]; omega), if_pos rfl]
    rfl
  · rw [if_neg (fun h2 => e h2.symm), if_neg e, ← List.getD_eq_getElem?_getD]
    exact h.2 z hz
theorem l1_ev {m : Nat} (hm : m ≤ 16) {p o : Nat → Nat} (T : plat.Two m p o) (pr ou : List Int) (hp : ∀ z : Nat, z < m → rd pr (z : Int) = ((p z : Nat) : Int)) (ho : ∀ z : Nat, z < m → rd ou (z : Int) = ((o z : Nat) : Int)) (x : Int) (c : Int) (r : Int) : ∀ (d : Nat) (met : List Bool) (M : Nat → Bool) (y : Nat), y < m → Met m met M → plat.un m M ≤ d →
    ∃ met', Met m met' (plat.pwk p o d M y) ∧ (Ev (fun k => plt.l0 (m : Int) pr ou k met' (x + 1) c) r → Ev (fun k => plt.l1 (m : Int) pr ou k met x c (y : Int)) r)
  | 0, met, M, y, hy, hM, hd => by
    have hmy : M y = true := plat.un_zero (by omega) hy
    refine ⟨met, hM, fun h => ?_⟩
    refine Ev.succ ?_
    have c1 : met.getD (y : Int).toNat false = true := by rw [Int.toNat_natCast, hM.2 y hy]; exact hmy
    simp only [plt.l1, if_pos c1]
    exact h
  | d + 1, met, M, y, hy, hM, hd => by
    by_cases hmy : M y = true
    · refine ⟨met, by unfold plat.pwk; rw [if_pos hmy]; exact hM, fun h => ?_⟩
      refine Ev.succ ?_
      have c1 : met.getD (y : Int).toNat false = true := by rw [Int.toNat_natCast, hM.2 y hy]; exact hmy
      simp only [plt.l1, if_pos c1]
      exact h
    · have hf : M y = false := by simpa using hmy
      have hpy := T.pl y hy
      have u1 := plat.un_up hy hf
      have u2 := plat.un_le (m := m) (M := plat.up M y) (y := p y)
      obtain ⟨met', h1, h2⟩ := l1_ev hm T pr ou hp ho x c r d ((met.set y true).set (p y) true) (plat.up (plat.up M y) (p y)) (o (p y)) (T.ol _ hpy) ((hM.up y hy hm).up (p y) hpy hm) (by omega)
      refine ⟨met', by unfold plat.pwk; rw [if_neg hmy]; exact h1, fun h => ?_⟩
      refine Ev.succ ?_
      have c1 : ¬ met.getD y false = true := by rw [hM.2 y hy]; exact hmy
      simp only [plt.l1, Int.toNat_natCast, if_neg c1, hp y hy, ho _ hpy]
      exact h2 h
theorem l0_ev {m : Nat} (hm : m ≤ 16) {p o : Nat → Nat} (T : plat.Two m p o) (pr ou : List Int) (hp : ∀ z : Nat, z < m → rd pr (z : Int) = ((p z : Nat) : Int)) (ho : ∀ z : Nat, z < m → rd ou (z : Int) = ((o z : Nat) : Int)) (K : Nat) (hK : m ≤ K) : ∀ (d x : Nat) (met : List Bool) (M : Nat → Bool) (c : Nat), x + d = m → Met m met M →
    Ev (fun k => plt.l0 (m : Int) pr ou k met (x : Int) (c : Int)) ((plat.pcnt p o K d x M c : Nat) : Int)
  | 0, x, met, M, c, hx, hM => by
    refine Ev.succ ?_
    have c1 : ¬ (x : Int) < (m : Int) := by omega
    simp only [plt.l0, if_neg c1]
    exact Ev.now _
  | d + 1, x, met, M, c, hx, hM => by
    have hxm : x < m := by omega
    have c1 : (x : Int) < (m : Int) := by omega
    refine Ev.succ ?_
    unfold plat.pcnt
    by_cases hmx : M x = true
    · have c2 : met.getD (x : Int).toNat false = true := by rw [Int.toNat_natCast, hM.2 x hxm]; exact hmx
      simp only [plt.l0, if_pos c1, if_pos c2, if_pos hmx]
      have ih := l0_ev hm T pr ou hp ho K hK d (x + 1) met M c (by omega) hM
      rw [show ((x + 1 : Nat) : Int) = (x : Int) + 1 by omega] at ih
      exact ih
    · have c2 : ¬ met.getD (x : Int).toNat false = true := by rw [Int.toNat_natCast, hM.2 x hxm]; exact hmx
      simp only [plt.l0, if_pos c1, if_neg c2, if_neg hmx]
      have hun : plat.un m M ≤ K := by
        have : plat.un m M ≤ m := by
          unfold plat.un
          have := List.countP_le_length (p := fun z => !M z) (l := List.range m)
          simpa using this
        omega
      obtain ⟨met', h1, h2⟩ := l1_ev hm T pr ou hp ho (x : Int) ((c : Int) + 1) ((plat.pcnt p o K d (x + 1) (plat.pwk p o K M x) (c + 1) : Nat) : Int) K met M x hxm hM hun
      refine h2 ?_
      have ih := l0_ev hm T pr ou hp ho K hK d (x + 1) met' _ (c + 1) (by omega) h1
      rw [show ((x + 1 : Nat) : Int) = (x : Int) + 1 by omega, show ((c + 1 : Nat) : Int) = (c : Int) + 1 by omega] at ih
      exact ih
theorem in16 {l : List Int} (hl : l.length = 16) (m : Nat) (hm : m ≤ 16) (f : Nat → Nat) (h : ∀ z : Nat, z < m → rd l (z : Int) = ((f z : Nat) : Int) ∧ f z < 16) (h0 : ∀ z : Nat, m ≤ z → z < 16 → rd l (z : Int) = 0) : plt.in16 l = true := by
  simp only [plt.in16, Bool.and_eq_true, decide_eq_true_eq, List.all_eq_true]
  refine ⟨hl, fun v hv => ?_⟩
  obtain ⟨i, hi, rfl⟩ := List.getElem_of_mem hv
  have e := rd_get l i hi
  by_cases hm2 : i < m
  · have := h i hm2
    omega
  · have := h0 i (by omega) (by omega)
    omega
theorem ouf_far : ∀ k, k ≤ 16 → ∀ z : Nat, k ≤ z → z < 16 → rd (plt.ouf k) (z : Int) = 0
  | 0, _, z, _, hz => by
    simp only [plt.ouf, rd, Int.toNat_natCast, List.getD_eq_getElem?_getD, List.getElem?_replicate]
    split <;> rfl
  | k + 1, hk, z, h, hz => by
    rw [plt.ouf, rd_set_ne _ _ _ _ (by omega)]
    exact ouf_far k (by omega) z (by omega) hz
theorem pr_far {n : Nat} (hn : n ≤ 8) (e8 : List Int) (E A : Nat → Nat) (hp : plat.Perm2 n E A) (he : ∀ z : Nat, z < n → rd e8 (z : Int) = ((E z : Nat) : Int)) : ∀ k, k ≤ n → ∀ z : Nat, 2 * n ≤ z → z < 16 → rd (plt.pr (n : Int) e8 k) (z : Int) = 0
  | 0, _, z, _, hz => by
    simp only [plt.pr, rd, Int.toNat_natCast, List.getD_eq_getElem?_getD, List.getElem?_replicate]
    split <;> rfl
  | k + 1, hk, z, h, hz => by
    have hE := hp.el k (by omega)
    rw [plt.pr, he k (by omega), show ((n : Int) + ((E k : Nat) : Int)).toNat = n + E k by omega, rd_set_ne _ _ _ _ (by omega), rd_set_ne _ _ _ _ (by omega)]
    exact pr_far hn e8 E A hp he k (by omega) z h hz
theorem spec_ev {n : Nat} (h2 : 2 ≤ n) (hn : n ≤ 8) (he2 : n % 2 = 0) (e8 : List Int) (E A : Nat → Nat) (hp : plat.Perm2 n E A) (he : ∀ z : Nat, z < n → rd e8 (z : Int) = ((E z : Nat) : Int)) :
    Ev (fun k => spec_PlatComponents.g k (n : Int) e8) ((plat.dcount ((List.range n).map (plat.mgs (plat.prs A (n / 2) 0) Int.ofNat)) : Nat) : Int) := by
  have T := plat.two_of hp he2
  have hpr : ∀ z : Nat, z < 2 * n → rd (plt.pr (n : Int) e8 n) (z : Int) = ((plat.po n E A z : Nat) : Int) := fun z hz => pr_po hn e8 E A hp he z hz
  have hou : ∀ z : Nat, z < 2 * n → rd (plt.ouf (2 * n)) (z : Int) = ((plat.ou z : Nat) : Int) := fun z hz => ouf_at (2 * n) (by omega) z hz
  have hc : plt.in16 (plt.pr (n : Int) e8 n) = true ∧ plt.in16 (plt.ouf (2 * n)) = true :=
    ⟨in16 (plt.pr_length _ _ _) (2 * n) (by omega) (plat.po n E A) (fun z hz => ⟨hpr z hz, by have := T.pl z hz; omega⟩) (fun z h1 h2 => pr_far hn e8 E A hp he n (Nat.le_refl _) z h1 h2),
     in16 (plt.ouf_length _) (2 * n) (by omega) plat.ou (fun z hz => ⟨hou z hz, by have := T.ol z hz; omega⟩) (fun z h1 h2 => ouf_far (2 * n) (by omega) z h1 h2)⟩
  have e1 : (2 * (n : Int)).toNat = 2 * n := by omega
  have e2 : 2 * (n : Int) = ((2 * n : Nat) : Int) := by omega
  simp only [spec_PlatComponents.g, Int.toNat_natCast, e1, if_pos hc]
  rw [e2, ← plat.plat_law hp h2 he2 (2 * n) (Nat.le_refl _)]
  exact l0_ev (by omega) T _ _ hpr hou (2 * n) (Nat.le_refl _) (2 * n) 0 (List.replicate 16 false) (fun _ => false) 0 (by omega) ⟨by simp, fun z hz => by
    rw [List.getD_eq_getElem?_getD, List.getElem?_replicate]
    split <;> rfl⟩
end plx

/-! ### laws_toInt64S -/
theorem laws_toInt64S.ev0 (l : List Int) (hb : l.length ≤ 17592186044416) : ∀ (d i : Nat) (acc : List Int), i + d = l.length → acc.length = l.length →
    Ev (fun k => laws_toInt64S.l0 k l acc (i : Int)) (acc.take i ++ l.drop i) := by
  intro d
  induction d with
  | zero =>
    intro i acc hi ha
    refine Ev.succ ?_
    simp (disch := omega) only [laws_toInt64S.l0, if_neg]
    exact Ev.pure (by rw [List.take_of_length_le (by omega), List.drop_of_length_le (by omega), List.append_nil])
  | succ d ih =>
    intro i acc hi ha
    refine Ev.succ ?_
    simp (disch := omega) only [laws_toInt64S.l0, if_pos, w64]
    refine Ev.to (ih (i + 1) (acc.set i (rd l i)) (by omega) (by simpa using ha)) ?_
    rw [take_set_succ _ _ _ (by omega), drop_rd l i (by omega), List.append_assoc]; rfl
theorem laws_toInt64S.ev (l : List Int) (hb : l.length ≤ 17592186044416) : Ev (fun k => laws_toInt64S.f k l) l := by
  simp (disch := omega) only [laws_toInt64S.f, if_pos]
  refine Ev.to (laws_toInt64S.ev0 l hb l.length 0 (List.replicate l.length 0) (by omega) (by simp)) (by simp)

/-! ### laws_toBraid -/
theorem laws_toBraid.ev (n : Int) (l : List Int) (hb : l.length ≤ 17592186044416) : Ev (fun k => laws_toBraid.f k n l) (n, l) := by
  simp only [laws_toBraid.f]
  exact Ev.bind (laws_toInt64S.ev l hb) (Ev.now _)

/-! ### impl_within -/
theorem impl_within.eq (a lo hi : Int) : impl_within.f a lo hi = some (inB a lo hi) := by
  unfold impl_within.f inB
  by_cases h : lo ≤ a <;> simp [h]

/-! ### impl_isCount -/
theorem impl_isCount.eq (a : Int) : impl_isCount.f a = some (inB a 1 8) := by simp only [impl_isCount.f, impl_within.eq, Option.bind_some]

/-! ### impl_isLetter -/
theorem impl_isLetter.eq (x n : Int) (h1 : 1 ≤ n) (h8 : n ≤ 8) : impl_isLetter.f x n = some (letterB n x) := by
  simp (disch := omega) only [impl_isLetter.f, impl_within.eq, Option.bind_some, w64]
  unfold letterB
  split <;> simp_all

/-! ### impl_IsBraid -/
theorem impl_IsBraid.ev0 (n : Int) (l : List Int) (h1 : 1 ≤ n) (h8 : n ≤ 8) (hb : l.length ≤ 200) : ∀ (d i : Nat), i + d = l.length →
    Ev (fun k => impl_IsBraid.l0 k l (l.length : Int) (i : Int) n l) ((l.drop i).all (letterB n)) := by
  intro d
  induction d with
  | zero =>
    intro i hi
    refine Ev.succ ?_
    simp (disch := omega) only [impl_IsBraid.l0, if_neg]
    exact Ev.pure (by rw [List.drop_of_length_le (by omega)]; rfl)
  | succ d ih =>
    intro i hi
    refine Ev.succ ?_
    simp (disch := omega) only [impl_IsBraid.l0, if_pos, w64, impl_isLetter.eq, Option.bind_some]
    rw [drop_rd l i (by omega), List.all_cons]
    cases h : letterB n (rd l i) with
    | true => simp only [if_true, Bool.true_and]; exact ih (i + 1) (by omega)
    | false => exact Ev.pure (by simp)
theorem impl_IsBraid.ev (n : Int) (l : List Int) : Ev (fun k => impl_IsBraid.f k n l) (isBraidB n l) := by
  simp only [impl_IsBraid.f, impl_isCount.eq, Option.bind_some]
  unfold isBraidB
  cases hn : inB n 1 8 with
  | false =>
    refine Ev.succ ?_
    simp [impl_IsBraid.j0]
    exact Ev.now _
  | true =>
    obtain ⟨h1, h8⟩ := inB_iff.1 hn
    refine Ev.succ ?_
    simp only [if_true, impl_IsBraid.j0, Bool.true_and]
    by_cases hl : l.length ≤ 200
    · have : ¬ ((l.length : Int) > 200) := by omega
      simp only [this, decide_false, Bool.false_eq_true, if_false, hl, decide_true, Bool.true_and]
      exact Ev.to (impl_IsBraid.ev0 n l h1 h8 hl l.length 0 (by omega)) (by simp)
    · have : ((l.length : Int) > 200) := by omega
      simp only [this, decide_true, if_true, hl, decide_false, Bool.false_and]
      exact Ev.now _

/-! ### impl_strandsOf -/
-- use LibPure
theorem impl_strandsOf.ev0 (n : Nat) (hn : n ≤ 8) : ∀ (d i : Nat) (acc : List Int), i + d = n → acc.length ≤ i → Ev (fun k => impl_strandsOf.l0 k acc (n : Int) (i : Int)) (acc ++ iota (i : Int) d) := by
  intro d
  induction d with
  | zero =>
    intro i acc hi ha
    refine Ev.succ ?_
    simp (disch := omega) only [impl_strandsOf.l0, if_neg]
    exact Ev.pure (by simp [iota])
  | succ d ih =>
    intro i acc hi ha
    refine Ev.succ ?_
    have c1 : (i : Int) < (n : Int) := by omega
    have c2 : acc.length < 17592186044416 := by omega
    have w1 := Aside0.mk (show wrap64 ((i : Int) + 1) = ((i + 1 : Nat) : Int) from (w64 (by omega) (by omega)).trans (by omega))
    simp only [impl_strandsOf.l0, if_pos c1, if_pos c2, w1.out]
    exact Ev.to (ih (i + 1) (acc ++ [(i : Int)]) (by omega) (by simp; omega)) (by simp [iota])
theorem impl_strandsOf.ev (n : Int) (hn : 0 ≤ n ∧ n ≤ 8) : Ev (fun k => impl_strandsOf.f k n) (iota 0 n.toNat) := by
  obtain ⟨m, rfl⟩ : ∃ m : Nat, n = (m : Int) := ⟨n.toNat, by omega⟩
  simp only [impl_strandsOf.f, Int.toNat_natCast]
  exact Ev.to (impl_strandsOf.ev0 m (by omega) m 0 [] (by omega) (by simp)) (by simp)

/-! ### impl_fineGroups -/
theorem impl_fineGroups.ev (n : Int) (hn : 0 ≤ n ∧ n ≤ 8) : Ev (fun k => impl_fineGroups.f k n) (iota 0 n.toNat) := by
  simp only [impl_fineGroups.f]
  exact Ev.bind (impl_strandsOf.ev n hn) (Ev.now _)

/-! ### impl_size -/
theorem impl_size.eq (x : Int) (h : -4611686018427387904 ≤ x ∧ x ≤ 4611686018427387904) : impl_size.f x = some (absI x) := by
  have e : wrap64 (-x) = -x := w64 (by omega) (by omega)
  simp only [impl_size.f, e, absI]

/-! ### impl_follow -/
-- use LibPure
theorem impl_follow.ev0 (n : Nat) (hn : n ≤ 8) (l : List Int) (hb : l.length ≤ 200) (hl : ∀ x ∈ l, 1 ≤ absI x ∧ absI x < (n : Int)) : ∀ (d i : Nat) (xs : List Int), i + d = l.length → xs.length = n →
    Ev (fun k => impl_follow.l0 k xs l (l.length : Int) (i : Int)) ((l.drop i).foldl swI xs) := by
  intro d
  induction d with
  | zero =>
    intro i xs hi ha
    refine Ev.succ ?_
    simp (disch := omega) only [impl_follow.l0, if_neg]
    exact Ev.pure (by rw [List.drop_of_length_le (by omega)]; rfl)
  | succ d ih =>
    intro i xs hi ha
    have hx := hl _ (rd_mem l i (by omega))
    have hb := absI_eq (rd l (i : Int))
    have h8 : -8 ≤ rd l (i : Int) ∧ rd l (i : Int) ≤ 8 := by split at hb <;> omega
    have hsz := Aside0.mk (impl_size.eq (rd l (i : Int)) (by omega))
    have w1 := Aside0.mk (show wrap64 ((i : Int) + 1) = ((i + 1 : Nat) : Int) from (w64 (by omega) (by omega)).trans (by omega))
    have wk := Aside0.mk (w64 (x := absI (rd l (i : Int)) - 1) (by omega) (by omega))
    have c1 : (i : Int) < (l.length : Int) := by omega
    have c2 : 0 ≤ (i : Int) := by omega
    have c3 : 0 ≤ absI (rd l (i : Int)) - 1 := by omega
    have c4 : absI (rd l (i : Int)) - 1 < (xs.length : Int) := by omega
    have c5 : 0 ≤ absI (rd l (i : Int)) := by omega
    have c6 : absI (rd l (i : Int)) < (xs.length : Int) := by omega
    refine Ev.succ ?_
    rw [drop_rd l i (by omega), List.foldl_cons]
    simp only [impl_follow.l0, if_pos c1, if_pos c2, hsz.out, Option.bind_some, wk.out, if_pos c3, if_pos c4, if_pos c5, if_pos c6, w1.out]
    exact ih (i + 1) (swI xs (rd l (i : Int))) (by omega) (by simp [swI, ha])
theorem impl_follow.ev (n : Int) (l : List Int) (f : Int) (h : isBraidB n l = true) : Ev (fun k => impl_follow.f k n l f) (atL n.toNat l) := by
  obtain ⟨hn, hb, _⟩ := isBraidB_iff.1 h
  simp only [impl_follow.f]
  refine Ev.bind (impl_strandsOf.ev n (by omega)) ?_
  exact Ev.to (impl_follow.ev0 n.toNat (by omega) l hb (braid_sizes h) l.length 0 (iota 0 n.toNat) (by omega) (iota_length _ _)) (by simp [atL])

/-! ### slices_insertionSortOrdered_int64 -/
-- use LibCyc
theorem cmp_Less_int64.eq (a b : Int) : cmp_Less_int64.f a b = some (decide (a < b)) := by
  unfold cmp_Less_int64.f cmp_isNaN_int64.f
  simp
theorem slices_insertionSortOrdered_int64.ev1 (n : Nat) (hn : n ≤ 1000) (i : Nat) (R : List Int) : ∀ (j : Nat) (xs : List Int), xs.length = n → j < n →
    Ev (fun k => slices_insertionSortOrdered_int64.l0 k (insGo j xs) 0 (n : Int) (wrap64 ((i : Int) + 1))) R → Ev (fun k => slices_insertionSortOrdered_int64.l1 k xs 0 (n : Int) (i : Int) (j : Int)) R
  | 0, xs, hl, hj, next => by
    refine Ev.succ ?_
    have c1 : ¬ ((0 : Nat) : Int) > 0 := by omega
    simp only [slices_insertionSortOrdered_int64.l1, if_neg c1]
    exact next
  | j + 1, xs, hl, hj, next => by
    have ih := slices_insertionSortOrdered_int64.ev1 n hn i R j
    have c1 : (((j + 1 : Nat) : Int)) > 0 := by omega
    have c2 : (0 : Int) ≤ ((j + 1 : Nat) : Int) := by omega
    have c3 : ((j + 1 : Nat) : Int) < (xs.length : Int) := by omega
    have w1 : wrap64 (((j + 1 : Nat) : Int) - 1) = (j : Int) := (w64 (by omega) (by omega)).trans (by omega)
    have c4 : (0 : Int) ≤ (j : Int) := by omega
    have c5 : (j : Int) < (xs.length : Int) := by omega
    refine Ev.succ ?_
    simp only [slices_insertionSortOrdered_int64.l1, if_pos c1, if_pos c2, if_pos c3, w1, if_pos c4, if_pos c5, cmp_Less_int64.eq, Option.bind_some, Int.toNat_natCast, decide_eq_true_eq]
    rw [insGo] at next
    by_cases h : rd xs ((j + 1 : Nat) : Int) < rd xs (j : Int)
    · rw [if_pos h] at next
      simp only [if_pos h]
      exact ih _ (by simpa using hl) (by omega) next
    · rw [if_neg h] at next
      simp only [if_neg h]
      exact next
theorem slices_insertionSortOrdered_int64.ev0 (n : Nat) (hn : n ≤ 1000) : ∀ (d i : Nat) (xs : List Int), xs.length = n → i + d = n →
    Ev (fun k => slices_insertionSortOrdered_int64.l0 k xs 0 (n : Int) (i : Int)) (sortGo d i xs)
  | 0, i, xs, hl, hi => by
    refine Ev.succ ?_
    have c1 : ¬ (i : Int) < (n : Int) := by omega
    simp only [slices_insertionSortOrdered_int64.l0, if_neg c1, sortGo]
    exact Ev.now _
  | d + 1, i, xs, hl, hi => by
    have ih := slices_insertionSortOrdered_int64.ev0 n hn d (i + 1) (insGo i xs) (by rw [insGo_length]; exact hl) (by omega)
    have c1 : (i : Int) < (n : Int) := by omega
    have w1 : wrap64 ((i : Int) + 1) = ((i + 1 : Nat) : Int) := (w64 (by omega) (by omega)).trans (by omega)
    refine Ev.succ ?_
    simp only [slices_insertionSortOrdered_int64.l0, if_pos c1, sortGo]
    exact slices_insertionSortOrdered_int64.ev1 n hn i _ i xs hl (by omega) (by rw [w1]; exact ih)
theorem slices_insertionSortOrdered_int64.ev (xs : List Int) (hn : xs.length ≤ 1000) : Ev (fun k => slices_insertionSortOrdered_int64.f k xs 0 (xs.length : Int)) (sortI xs) := by
  have w1 : wrap64 ((0 : Int) + 1) = ((1 : Nat) : Int) := (w64 (by omega) (by omega)).trans (by omega)
  simp only [slices_insertionSortOrdered_int64.f, w1]
  by_cases h0 : xs.length = 0
  · have e1 : xs = [] := List.length_eq_zero_iff.1 h0
    subst e1
    refine Ev.succ ?_
    simp only [slices_insertionSortOrdered_int64.l0]
    exact Ev.now _
  · exact slices_insertionSortOrdered_int64.ev0 _ hn _ 1 xs rfl (by omega)

/-! ### bits_Len64 -/
theorem bits_Len64.ev (x : Int) (h : 0 ≤ x ∧ x ≤ 255) : ∃ r, Ev (fun k => bits_Len64.f k x) r := by
  have c1 : ¬ x ≥ 4294967296 := by omega
  have c2 : ¬ x ≥ 65536 := by omega
  have c3 : ¬ x ≥ 256 := by omega
  have c4 : 0 ≤ x % 256 := by omega
  have c5 : x % 256 < 256 := by omega
  have h1 : ∀ k, bits_Len64.j0 (k + 1) x 0 = bits_Len64.j0 1 x 0 := fun k => by simp only [bits_Len64.j0]
  have h2 : ∃ r, bits_Len64.j0 1 x 0 = some r := by
    simp only [bits_Len64.j0, if_neg c2, if_neg c3, if_pos c4, if_pos c5]
    exact ⟨_, rfl⟩
  obtain ⟨r, hr⟩ := h2
  refine ⟨r, ?_⟩
  simp only [bits_Len64.f, if_neg c1]
  exact Ev.succ ⟨0, fun k _ => (h1 k).trans hr⟩

/-! ### bits_Len -/
theorem bits_Len.ev (x : Int) (h : 0 ≤ x ∧ x ≤ 255) : ∃ r, Ev (fun k => bits_Len.f k x) r := by
  obtain ⟨r, hr⟩ := bits_Len64.ev x h
  exact ⟨r, by simp only [bits_Len.f]; exact Ev.bind hr (Ev.now _)⟩

/-! ### slices_pdqsortOrdered_int64 -/
theorem slices_pdqsortOrdered_int64.ev (xs : List Int) (hn : xs.length ≤ 12) (t : Int) : Ev (fun k => slices_pdqsortOrdered_int64.f k xs 0 (xs.length : Int) t) (sortI xs) := by
  have w1 : wrap64 ((xs.length : Int) - 0) = (xs.length : Int) := (w64 (by omega) (by omega)).trans (by omega)
  have c1 : (xs.length : Int) ≤ 12 := by omega
  simp only [slices_pdqsortOrdered_int64.f, w1, if_pos c1]
  exact slices_insertionSortOrdered_int64.ev xs (by omega)

/-! ### impl_groups_int64_19 -/
-- use LibCyc
theorem u64_small : ∀ n : Fin 13, IntKind.u64.wrap ((n.val : Nat) : Int) = (n.val : Int) := by decide +kernel
theorem impl_groups_int64_19.ev (xs : List Int) (hn : xs.length ≤ 12) : Ev (fun k => impl_groups_int64_19.f k xs) (sortI xs) := by
  have e := u64_small ⟨xs.length, by omega⟩
  simp only at e
  obtain ⟨r, hr⟩ := bits_Len.ev (xs.length : Int) ⟨by omega, by omega⟩
  simp only [impl_groups_int64_19.f, e]
  exact Ev.bind hr (Ev.bind (slices_pdqsortOrdered_int64.ev xs hn r) (Ev.now _))

/-! ### impl_PlatComponents -/
-- use LibPlax
open Go.Proofs.Ytmmoimofjomnlaa.LibPlat
namespace plx
theorem mgo_at (hi lo : Int) : ∀ (d i : Nat) (G : List Int), i + d = G.length → ∀ a : Nat, a < G.length → rd (plt.mgo hi lo d (i : Int) G) (a : Int) = if i ≤ a then (if rd G (a : Int) = hi then lo else rd G (a : Int)) else rd G (a : Int)
  | 0, i, G, hd, a, ha => by
    rw [plt.mgo, if_neg (by omega)]
  | d + 1, i, G, hd, a, ha => by
    have hi' : i < G.length := by omega
    rw [plt.mgo, show (i : Int) + 1 = ((i + 1 : Nat) : Int) by omega, Int.toNat_natCast]
    have hG : ∀ G' : List Int, G'.length = G.length → rd (plt.mgo hi lo d ((i + 1 : Nat) : Int) G') (a : Int) = if i + 1 ≤ a then (if rd G' (a : Int) = hi then lo else rd G' (a : Int)) else rd G' (a : Int) := fun G' hl => mgo_at hi lo d (i + 1) G' (by omega) a (by omega)
    by_cases hc : rd G (i : Int) = hi
    · rw [if_pos hc, hG _ (by rw [List.length_set])]
      by_cases e : a = i
      · subst e
        rw [if_neg (show ¬ a + 1 ≤ a by omega), if_pos (Nat.le_refl _), if_pos hc, rd_set_eq _ _ _ hi']
      · rw [rd_set_ne _ _ _ _ e]
        by_cases h : i + 1 ≤ a
        · rw [if_pos h, if_pos (show i ≤ a by omega)]
        · rw [if_neg h, if_neg (show ¬ i ≤ a by omega)]
    · rw [if_neg hc, hG _ rfl]
      by_cases e : a = i
      · subst e
        rw [if_neg (show ¬ a + 1 ≤ a by omega), if_pos (Nat.le_refl _), if_neg hc]
      · by_cases h : i + 1 ≤ a
        · rw [if_pos h, if_pos (show i ≤ a by omega)]
        · rw [if_neg h, if_neg (show ¬ i ≤ a by omega)]
def Rel (n : Nat) (G : List Int) (f : Nat → Int) : Prop := G.length = n ∧ ∀ a : Nat, a < n → rd G (a : Int) = f a
theorem Rel.mg {n : Nat} {G : List Int} {f : Nat → Int} (h : Rel n G f) (x y : Nat) (hx : x < n) (hy : y < n) : Rel n (plt.mg G (x : Int) (y : Int)) (plat.mg f x y) := by
  refine ⟨by rw [plt.mg_length]; exact h.1, fun a ha => ?_⟩
  have hb := mgo_at (plt.mx2 (rd G (x : Int)) (rd G (y : Int))) (plt.mn2 (rd G (x : Int)) (rd G (y : Int))) G.length 0 G (by omega) a (by rw [h.1]; exact ha)
  rw [if_pos (Nat.zero_le _)] at hb
  have e1 : plt.mx2 (f x) (f y) = max (f x) (f y) := by unfold plt.mx2; split <;> omega
  have e2 : plt.mn2 (f x) (f y) = min (f x) (f y) := by unfold plt.mn2; split <;> omega
  rw [h.2 x hx, h.2 y hy, h.2 a ha, e1, e2] at hb
  unfold plt.mg plat.mg
  rw [h.2 x hx, h.2 y hy, e1, e2]
  exact hb
theorem Rel.ml {n : Nat} (A : Nat → Nat) (at_ : List Int) (hA : ∀ q : Nat, q < n → rd at_ (q : Int) = ((A q : Nat) : Int) ∧ A q < n) : ∀ (d k : Nat) (G : List Int) (f : Nat → Int), k + 2 * d ≤ n → Rel n G f → Rel n (plt.ml at_ d (k : Int) G) (plat.mgs (plat.prs A d k) f)
  | 0, k, G, f, _, h => h
  | d + 1, k, G, f, hk, h => by
    have h1 := h.mg k (k + 1) (by omega) (by omega)
    have h2 := h1.mg (A k) (A (k + 1)) (hA k (by omega)).2 (hA (k + 1) (by omega)).2
    rw [plt.ml]
    have e1 : (k : Int) + 1 = ((k + 1 : Nat) : Int) := by omega
    have e2 : (k : Int) + 2 = ((k + 2 : Nat) : Int) := by omega
    rw [e1, e2, (hA k (by omega)).1, (hA (k + 1) (by omega)).1]
    exact Rel.ml A at_ hA d (k + 2) _ _ (by omega) h2
theorem Rel.eq {n : Nat} {G : List Int} {f : Nat → Int} (h : Rel n G f) : G = (List.range n).map f := by
  refine List.ext_getElem (by simp [h.1]) fun i h1 h2 => ?_
  have := h.2 i (by rw [← h.1]; exact h1)
  rw [rd_get G i h1] at this
  simp [this]
theorem iota_rd : ∀ (n : Nat) (k : Int) (a : Nat), a < n → rd (iota k n) (a : Int) = k + a
  | n + 1, k, 0, _ => by simp [iota, rd]
  | n + 1, k, a + 1, h => by
    have := iota_rd n (k + 1) a (by omega)
    rw [iota]
    unfold rd at this ⊢
    rw [Int.toNat_natCast] at this ⊢
    rw [List.getD_cons_succ, this]
    omega
theorem impl_ev {n : Nat} (h2 : 2 ≤ n) (hn : n ≤ 8) (he2 : n % 2 = 0) (A : Nat → Nat) (at_ : List Int) (hl : at_.length = n) (hA : ∀ q : Nat, q < n → rd at_ (q : Int) = ((A q : Nat) : Int) ∧ A q < n) :
    Ev (fun k => impl_groups_int64_19.f k (plt.ml at_ (n / 2) 0 (iota 0 n))) (sortI ((List.range n).map (plat.mgs (plat.prs A (n / 2) 0) Int.ofNat))) := by
  have hr : Rel n (iota 0 n) Int.ofNat := ⟨iota_length 0 n, fun a ha => by rw [iota_rd n 0 a ha, Int.zero_add]; rfl⟩
  have h := (Rel.ml A at_ hA (n / 2) 0 (iota 0 n) Int.ofNat (by omega) hr).eq
  rw [← h]
  refine impl_groups_int64_19.ev _ ?_
  rw [plt.ml_length, iota_length]
  omega
end plx

/-! ### laws_eqInt64S -/
theorem laws_eqInt64S.ev0 (l m : List Int) (hb : l.length ≤ 4611686018427387904) (hlm : l.length = m.length) : ∀ (d i : Nat), i + d = l.length →
    Ev (fun k => laws_eqInt64S.l0 k l m (i : Int)) (decide (l.drop i = m.drop i)) := by
  intro d
  induction d with
  | zero =>
    intro i hi
    refine Ev.succ ?_
    simp (disch := omega) only [laws_eqInt64S.l0, if_neg]
    exact Ev.pure (by rw [List.drop_of_length_le (by omega), List.drop_of_length_le (by omega)]; simp)
  | succ d ih =>
    intro i hi
    refine Ev.succ ?_
    simp (disch := omega) only [laws_eqInt64S.l0, if_pos, w64]
    rw [drop_rd l i (by omega), drop_rd m i (by omega)]
    by_cases h : rd l i = rd m i
    · simp only [if_pos h]
      refine Ev.to (ih (i + 1) (by omega)) (by simp [h])
    · simp only [if_neg h]
      exact Ev.pure (by simp [h])
theorem laws_eqInt64S.ev (l m : List Int) (hb : l.length ≤ 4611686018427387904) : Ev (fun k => laws_eqInt64S.f k l m) (decide (l = m)) := by
  by_cases h : l.length = m.length
  · simp (disch := omega) only [laws_eqInt64S.f, if_pos]
    exact Ev.to (laws_eqInt64S.ev0 l m hb h l.length 0 (by omega)) (by simp)
  · simp (disch := omega) only [laws_eqInt64S.f, if_neg]
    exact Ev.pure (by simp; intro e; exact h (by rw [e]))

/-! ### laws_eqBraid -/
theorem laws_eqBraid.ev (n m : Int) (l s : List Int) (hb : l.length ≤ 4611686018427387904) : Ev (fun k => laws_eqBraid.f k n l m s) (decide (n = m) && decide (l = s)) := by
  simp only [laws_eqBraid.f]
  by_cases h : n = m
  · simp only [if_pos h]
    refine Ev.bind (laws_eqInt64S.ev l s hb) ?_
    by_cases h' : l = s <;> simp [h, h'] <;> exact Ev.now _
  · simp only [if_neg h]
    exact Ev.pure (by simp [h])

-- says For every braid-shaped input the program's PlatComponents returns what the reference's returns and leaves its argument alone; no conditions.
-- row braid
-- use LibPlax
open Go.Proofs.Ytmmoimofjomnlaa.LibPlat in
theorem plat_law (n : Int) (l : List Int) (hf : Fits l) : ∃ (v c : Int), Ev (fun k => spec_PlatComponents.f k n l) (v, c) ∧ Ev (fun k => impl_PlatComponents.f k n l) (v, c) := by
  by_cases hb : isBraidB n l = true
  · obtain ⟨h8, hl, hx⟩ := isBraidB_iff.1 hb
    have hs := braid_sizes hb
    obtain ⟨m, hm⟩ : ∃ m : Nat, n = m := ⟨n.toNat, by omega⟩
    subst hm
    rw [Int.toNat_natCast] at hs
    have hgood : plt.good (m : Int) l = true := by
      simp only [plt.good, Bool.and_eq_true, decide_eq_true_eq, List.all_eq_true]
      refine ⟨⟨by omega, hl⟩, fun x hx2 => ?_⟩
      have h1 := hx x hx2
      unfold mx
      rw [w64 (x := -x) (by omega) (by omega)]
      split <;> omega
    have ht : Int.tmod (m : Int) 2 = ((m % 2 : Nat) : Int) := by
      rw [Int.tmod_eq_emod_of_nonneg (by omega)]
      omega
    by_cases he : m % 2 = 0
    · have c0 : Int.tmod (m : Int) 2 = 0 := by rw [ht]; omega
      have c1 : ¬ Int.tmod (m : Int) 2 = 1 := by rw [ht]; omega
      have hp := plx.atL_perm hs
      have hP := plx.perm2 hp
      have hin := atL_in hs
      have hA : ∀ q : Nat, q < m → rd (atL m l) (q : Int) = (((rd (atL m l) (q : Int)).toNat : Nat) : Int) ∧ (rd (atL m l) (q : Int)).toNat < m := fun q hq => by
        have := rd_in hin (x := (q : Int)) (by omega) (by omega)
        omega
      have hE : ∀ z : Nat, z < m → rd (permL (m : Int) l) (z : Int) = (((rd (endsGo (atL m l) m m) (z : Int)).toNat : Nat) : Int) := fun z hz => by
        have h1 := spec_l10Pure.permEq (m : Int) (by omega) (l := l) (by rw [Int.toNat_natCast]; exact hs)
        rw [Int.toNat_natCast] at h1
        rw [h1, rd_app _ _ (by omega) (by rw [endsGo_length]; omega)]
        have := rd_in (endsGo_in hin m (Nat.le_refl _)) (x := (z : Int)) (by omega) (by omega)
        omega
      have r1 := plx.spec_ev (by omega) (by omega) he (permL (m : Int) l) _ _ hP hE
      have r2 := plx.impl_ev (by omega) (by omega) he _ (atL m l) hin.1 hA
      obtain ⟨D, hD⟩ : ∃ D, (List.range m).map (plat.mgs (plat.prs (fun q => (rd (atL m l) (q : Int)).toNat) (m / 2) 0) Int.ofNat) = D := ⟨_, rfl⟩
      have hDl : D.length = m := by rw [← hD]; simp
      rw [hD] at r1 r2
      refine ⟨((plat.dcount D : Nat) : Int), 0, ?_, ?_⟩
      · simp only [spec_PlatComponents.f]
        refine Ev.bind (spec_l01Is.ev m l hf) ?_
        simp only [if_pos hb, if_pos hgood, if_pos c0]
        refine Ev.bind r1 ?_
        exact Ev.now _
      · simp only [impl_PlatComponents.f]
        refine Ev.bind (impl_IsBraid.ev m l) ?_
        simp only [if_pos hb, if_neg c1]
        refine Ev.bind (impl_fineGroups.ev (m : Int) (by omega)) ?_
        refine Ev.bind (impl_follow.ev (m : Int) l 0 hb) ?_
        have hok : plt.okI (m : Int) (iota 0 m) (atL m l) = true := by
          simp only [plt.okI, Bool.and_eq_true, decide_eq_true_eq, List.all_eq_true, Int.toNat_natCast]
          exact ⟨⟨by omega, by omega, by omega, iota_length 0 m, hin.1⟩, fun v hv => hin.2 v hv⟩
        simp only [Int.toNat_natCast, if_pos hok]
        refine Ev.bind r2 ?_
        have hsl : (sortI D).length = m := by rw [sortI_length]; exact hDl
        simp only [if_pos hsl]
        refine Ev.pure ?_
        rw [plx.sort_count D (by omega)]
    · have c0 : ¬ Int.tmod (m : Int) 2 = 0 := by rw [ht]; omega
      have c1 : Int.tmod (m : Int) 2 = 1 := by rw [ht]; omega
      refine ⟨0, 5, ?_, ?_⟩
      · simp only [spec_PlatComponents.f]
        refine Ev.bind (spec_l01Is.ev m l hf) ?_
        simp only [if_pos hb, if_pos hgood, if_neg c0]
        exact Ev.now _
      · simp only [impl_PlatComponents.f]
        refine Ev.bind (impl_IsBraid.ev m l) ?_
        simp only [if_pos hb, if_pos c1]
        exact Ev.now _
  · refine ⟨0, 1, ?_, ?_⟩
    · simp only [spec_PlatComponents.f]
      refine Ev.bind (spec_l01Is.ev n l hf) ?_
      simp only [if_neg hb]
      exact Ev.now _
    · simp only [impl_PlatComponents.f]
      refine Ev.bind (impl_IsBraid.ev n l) ?_
      simp only [if_neg hb]
      exact Ev.now _
theorem law (n : Int) (l : List Int) (hl : l.length ≤ maxLen) (hw : ∀ x ∈ l, (Lit.int .i64 x).wf = true) : ∃ k, laws_FnExactPlatComponents.f k n l = some true := by
  have hf := Fits.of hw
  have hsz := laws_szBraid.eq n l 1048576 (by omega) (by omega) hl
  by_cases hz : (1048576 : Int) - l.length < 0
  · rw [if_pos hz] at hsz
    exact ⟨0, by simp only [laws_FnExactPlatComponents.f, hsz, Option.bind_some]; rfl⟩
  rw [if_neg hz] at hsz
  obtain ⟨r, c, h2, h3⟩ := plat_law n l hf
  have h1 := laws_toBraid.ev n l (by omega)
  have h4 := laws_eqBraid.ev n n l l (by omega)
  refine Ev.rounds ?_
  simp only [laws_FnExactPlatComponents.f, hsz, Option.bind_some, if_neg hz]
  (try simp only [laws_FnExactPlatComponents.f])
  repeat (first | (with_reducible refine Ev.bind h1 ?_; (try dsimp only)) | (with_reducible refine Ev.bind h2 ?_; (try dsimp only)) | (with_reducible refine Ev.bind h3 ?_; (try dsimp only)) | (with_reducible refine Ev.bind h4 ?_; (try dsimp only)) | (simp only [if_true, if_false, eq_self, decide_true, decide_false, Bool.and_self, Bool.true_and, Bool.and_true, bne_self_eq_false, Bool.not_true, Bool.not_false, Bool.false_eq_true, reduceCtorEq, iota_length]))
  refine Ev.succ ?_
  simp only [laws_FnExactPlatComponents.j0]
  repeat (first | (with_reducible refine Ev.bind h1 ?_; (try dsimp only)) | (with_reducible refine Ev.bind h2 ?_; (try dsimp only)) | (with_reducible refine Ev.bind h3 ?_; (try dsimp only)) | (with_reducible refine Ev.bind h4 ?_; (try dsimp only)) | (simp only [if_true, if_false, eq_self, decide_true, decide_false, Bool.and_self, Bool.true_and, Bool.and_true, bne_self_eq_false, Bool.not_true, Bool.not_false, Bool.false_eq_true, reduceCtorEq, iota_length]))
  exact Ev.now _

end Go.Proofs.Ytmmoimofjomnlaa.PureFnExactPlatComponents
