/- For every braid-shaped input the program's ComponentLinkings returns what the reference's returns, keeps its argument and shares no memory; no conditions. -/
import Derived.Test.YtcbomfkimohlfaaMFnExactComponentLinkingsx
import Derived.Test.YtcbomfkimohlfaaLib
import Derived.Test.YtcbomfkimohlfaaLibCross
import Derived.Test.YtcbomfkimohlfaaLibCyc
import Derived.Test.YtcbomfkimohlfaaLibLinks
import Derived.Test.YtcbomfkimohlfaaLibMat
import Derived.Test.YtcbomfkimohlfaaLibPure
import Derived.Test.YtcbomfkimohlfaaLibRows
set_option linter.unusedVariables false
set_option linter.unusedSimpArgs false
set_option maxRecDepth 10000
set_option maxHeartbeats 4000000
namespace Go.Proofs.Ytcbomfkimohlfaa.PureFnExactComponentLinkings
open Go.RowKit Go.Proofs.Ytcbomfkimohlfaa.MFnExactComponentLinkings Go.Proofs.YtcbomfkimohlfaaW.PrintWords Go.Proofs.Ytcbomfkimohlfaa.Lib

theorem rdL1_eq (xs : List (List Int)) (i : Int) : rd_L1 xs i = rdl xs i := by
  have h : rd_L1 xs i = xs.getD i.toNat [] := by unfold rd_L1; rfl
  rw [h, rdl]

/-! ### laws_szInt64S -/
theorem laws_szInt64S.eq (l : List Int) (x : Int) (h0 : 0 ≤ x) (h1 : x ≤ 1048576) (hl : l.length ≤ maxLen) : laws_szInt64S.f l x = some (if x - l.length < 0 then -1 else x - l.length) := by
  unfold maxLen at hl
  simp (disch := omega) only [laws_szInt64S.f, w64]
  split <;> rfl

/-! ### laws_szBraid -/
theorem laws_szBraid.eq (n : Int) (l : List Int) (x : Int) (h0 : 0 ≤ x) (h1 : x ≤ 1048576) (hl : l.length ≤ maxLen) : laws_szBraid.f n l x = some (if x - l.length < 0 then -1 else x - l.length) := by
  simp (disch := assumption) only [laws_szBraid.f, laws_szInt64S.eq, Option.bind_some]
  by_cases h : x - l.length < 0
  · simp [h]
  · simp [h]

/-! ### laws_toInt64S -/
theorem laws_toInt64S.ev0 (l : List Int) (hb : l.length ≤ 17592186044416) : ∀ (d i : Nat) (acc : List Int), i + d = l.length → acc.length = l.length →
    Ev (fun k => laws_toInt64S.l0 k l acc (i : Int)) (acc.take i ++ l.drop i) := by
  intro d
  induction d with
  | zero =>
    intro i acc hi ha
    refine Ev.succ ?_
    simp (disch := omega) only [laws_toInt64S.l0, if_neg]
    exact Ev.pure (by rw [List.take_of_length_le (by omega), List.drop_of_length_le (by omega), List.append_nil])
  | succ d ih =>
    intro i acc hi ha
    refine Ev.succ ?_
    simp (disch := omega) only [laws_toInt64S.l0, if_pos, w64]
    refine Ev.to (ih (i + 1) (acc.set i (rd l i)) (by omega) (by simpa using ha)) ?_
    rw [take_set_succ _ _ _ (by omega), drop_rd l i (by omega), List.append_assoc]; rfl
theorem laws_toInt64S.ev (l : List Int) (hb : l.length ≤ 17592186044416) : Ev (fun k => laws_toInt64S.f k l) l := by
  simp (disch := omega) only [laws_toInt64S.f, if_pos]
  refine Ev.to (laws_toInt64S.ev0 l hb l.length 0 (List.replicate l.length 0) (by omega) (by simp)) (by simp)

/-! ### laws_toBraid -/
theorem laws_toBraid.ev (n : Int) (l : List Int) (hb : l.length ≤ 17592186044416) : Ev (fun k => laws_toBraid.f k n l) (n, l) := by
  simp only [laws_toBraid.f]
  exact Ev.bind (laws_toInt64S.ev l hb) (Ev.now _)

/-! ### laws_eqInt64S -/
theorem laws_eqInt64S.ev0 (l m : List Int) (hb : l.length ≤ 4611686018427387904) (hlm : l.length = m.length) : ∀ (d i : Nat), i + d = l.length →
    Ev (fun k => laws_eqInt64S.l0 k l m (i : Int)) (decide (l.drop i = m.drop i)) := by
  intro d
  induction d with
  | zero =>
    intro i hi
    refine Ev.succ ?_
    simp (disch := omega) only [laws_eqInt64S.l0, if_neg]
    exact Ev.pure (by rw [List.drop_of_length_le (by omega), List.drop_of_length_le (by omega)]; simp)
  | succ d ih =>
    intro i hi
    refine Ev.succ ?_
    simp (disch := omega) only [laws_eqInt64S.l0, if_pos, w64]
    rw [drop_rd l i (by omega), drop_rd m i (by omega)]
    by_cases h : rd l i = rd m i
    · simp only [if_pos h]
      refine Ev.to (ih (i + 1) (by omega)) (by simp [h])
    · simp only [if_neg h]
      exact Ev.pure (by simp [h])
theorem laws_eqInt64S.ev (l m : List Int) (hb : l.length ≤ 4611686018427387904) : Ev (fun k => laws_eqInt64S.f k l m) (decide (l = m)) := by
  by_cases h : l.length = m.length
  · simp (disch := omega) only [laws_eqInt64S.f, if_pos]
    exact Ev.to (laws_eqInt64S.ev0 l m hb h l.length 0 (by omega)) (by simp)
  · simp (disch := omega) only [laws_eqInt64S.f, if_neg]
    exact Ev.pure (by simp; intro e; exact h (by rw [e]))

/-! ### laws_eqBraid -/
theorem laws_eqBraid.ev (n m : Int) (l s : List Int) (hb : l.length ≤ 4611686018427387904) : Ev (fun k => laws_eqBraid.f k n l m s) (decide (n = m) && decide (l = s)) := by
  simp only [laws_eqBraid.f]
  by_cases h : n = m
  · simp only [if_pos h]
    refine Ev.bind (laws_eqInt64S.ev l s hb) ?_
    by_cases h' : l = s <;> simp [h, h'] <;> exact Ev.now _
  · simp only [if_neg h]
    exact Ev.pure (by simp [h])

/-! ### laws_markInt64S -/
theorem laws_markInt64S.ev0 (n : Nat) (hb : n ≤ 4611686018427387904) : ∀ (d i : Nat) (acc : List Int) (x : Int), i + d = n → acc.length = n → -4611686018427387904 ≤ x → x + d ≤ 4611686018427387904 →
    Ev (fun k => laws_markInt64S.l0 k acc x (i : Int)) (x + d, acc.take i ++ iota x d) := by
  intro d
  induction d with
  | zero =>
    intro i acc x hi ha h0 h1
    refine Ev.succ ?_
    simp (disch := omega) only [laws_markInt64S.l0, if_neg]
    exact Ev.pure (by rw [List.take_of_length_le (by omega)]; simp [iota])
  | succ d ih =>
    intro i acc x hi ha h0 h1
    refine Ev.succ ?_
    simp (disch := omega) only [laws_markInt64S.l0, if_pos, w64]
    refine Ev.to (ih (i + 1) (acc.set i x) (x + 1) (by omega) (by simpa using ha) (by omega) (by omega)) ?_
    rw [take_set_succ _ _ _ (by omega), List.append_assoc]
    exact Prod.ext (by simp; omega) rfl
theorem laws_markInt64S.ev (l : List Int) (x : Int) (h0 : 0 ≤ x) (h1 : x + l.length ≤ 4611686018427387904) : Ev (fun k => laws_markInt64S.f k l x) (x + l.length, iota x l.length) := by
  simp only [laws_markInt64S.f]
  exact Ev.to (laws_markInt64S.ev0 l.length (by omega) l.length 0 l x (by omega) rfl (by omega) h1) (by simp)

/-! ### laws_markBraid -/
theorem laws_markBraid.ev (n : Int) (l : List Int) (x : Int) (h0 : 0 ≤ x) (h1 : x + l.length ≤ 4611686018427387904) : Ev (fun k => laws_markBraid.f k n l x) (x + l.length, iota x l.length) := by
  simp only [laws_markBraid.f]
  exact Ev.bind (laws_markInt64S.ev l x h0 h1) (Ev.now _)

/-! ### laws_eqInt64SS -/
theorem laws_eqInt64SS.ev0 (l : List (List Int)) (hb : l.length ≤ 4611686018427387904) (hr : ∀ q ∈ l, q.length ≤ 4611686018427387904) : ∀ (d i : Nat), i + d = l.length →
    Ev (fun k => laws_eqInt64SS.l0 k l l (i : Int)) true := by
  intro d
  induction d with
  | zero =>
    intro i hi
    refine Ev.succ ?_
    simp (disch := omega) only [laws_eqInt64SS.l0, if_neg]
    exact Ev.now _
  | succ d ih =>
    intro i hi
    refine Ev.succ ?_
    simp (disch := omega) only [laws_eqInt64SS.l0, if_pos, w64, rdL1_eq]
    refine Ev.bind (laws_eqInt64S.ev _ _ (hr _ (rdl_mem l i (by omega)))) ?_
    simp only [decide_true, if_true]
    exact ih (i + 1) (by omega)
theorem laws_eqInt64SS.refl (l : List (List Int)) (hb : l.length ≤ 4611686018427387904) (hr : ∀ q ∈ l, q.length ≤ 4611686018427387904) : Ev (fun k => laws_eqInt64SS.f k l l) true := by
  simp only [laws_eqInt64SS.f, if_true]
  exact laws_eqInt64SS.ev0 l hb hr l.length 0 (by omega)

/-! ### laws_heldInt64S -/
theorem laws_heldInt64S.ev0 (x0 : Int) (n : Nat) (h0 : -4611686018427387904 ≤ x0) (hb : x0 + n ≤ 4611686018427387904) (hn : n ≤ 4611686018427387904) : ∀ (d i : Nat), i + d = n →
    Ev (fun k => laws_heldInt64S.l0 k (iota x0 n) (x0 + i) (i : Int)) (x0 + n) := by
  intro d
  have hl := iota_length x0 n
  induction d with
  | zero =>
    intro i hi
    refine Ev.succ ?_
    simp (disch := omega) only [laws_heldInt64S.l0, if_neg]
    exact Ev.pure (by omega)
  | succ d ih =>
    intro i hi
    refine Ev.succ ?_
    have e := rd_iota n i x0 (by omega)
    simp (disch := omega) only [laws_heldInt64S.l0, if_pos, w64]
    refine Ev.to (Ev.congr (fun k => ?_) (ih (i + 1) (by omega))) rfl
    congr 1
    omega
theorem laws_heldInt64S.ev (x : Int) (n : Nat) (h0 : -4611686018427387904 ≤ x) (h1 : x + n ≤ 4611686018427387904) (hn : n ≤ 4611686018427387904) : Ev (fun k => laws_heldInt64S.f k (iota x n) x) (x + n) := by
  simp only [laws_heldInt64S.f]
  refine Ev.congr (fun k => ?_) (laws_heldInt64S.ev0 x n h0 h1 hn n 0 (by omega))
  simp

/-! ### laws_heldInt64SS -/
-- use LibRows
theorem laws_heldInt64SS.ev0 (x0 : Int) (l : List (List Int)) (hl : l.length ≤ 1048576) : ∀ (d i : Nat) (x : Int), i + d = l.length → 0 ≤ x → x + total (l.drop i) ≤ 4611686018427387904 → (iotaSS x0 l).drop i = iotaSS x (l.drop i) →
    Ev (fun t => laws_heldInt64SS.l0 t (iotaSS x0 l) x (i : Int)) (x + total (l.drop i)) := by
  have hll := iotaSS_length x0 l
  intro d
  induction d with
  | zero =>
    intro i x hi h0 h1 he
    refine Ev.succ ?_
    have c1 : ¬ (i : Int) < ((iotaSS x0 l).length : Int) := by omega
    simp only [laws_heldInt64SS.l0, if_neg c1]
    exact Ev.pure (by rw [List.drop_of_length_le (by omega)]; simp [total])
  | succ d ih =>
    intro i x hi h0 h1 he
    refine Ev.succ ?_
    have c1 : (i : Int) < ((iotaSS x0 l).length : Int) := by omega
    have c2 : 0 ≤ (i : Int) := by omega
    rw [drop_rdl l i (by omega)] at h1 he ⊢
    rw [drop_rdl (iotaSS x0 l) i (by omega)] at he
    simp only [total, iotaSS, List.cons.injEq] at h1 he ⊢
    have w1 := Aside0.mk (w64 (x := (i : Int) + 1) (by omega) (by omega))
    simp only [laws_heldInt64SS.l0, if_pos c1, if_pos c2, rdL1_eq, he.1]
    refine Ev.bind (laws_heldInt64S.ev x _ (by omega) (by omega) (by omega)) ?_
    have c3 : ¬ (x + ((rdl l (i : Int)).length : Int) < 0) := by omega
    simp only [if_neg c3, w1.out]
    exact Ev.to (ih (i + 1) _ (by omega) (by omega) (by omega) he.2) (by omega)
theorem laws_heldInt64SS.ev (x : Int) (l : List (List Int)) (hl : l.length ≤ 1048576) (h0 : 0 ≤ x) (h1 : x + total l ≤ 4611686018427387904) : Ev (fun t => laws_heldInt64SS.f t (iotaSS x l) x) (x + total l) := by
  simp only [laws_heldInt64SS.f]
  exact Ev.to (laws_heldInt64SS.ev0 x l hl l.length 0 x (by omega) h0 (by simpa using h1) (by simp)) (by simp)

/-! ### spec_l01In -/
theorem spec_l01In.eq (a lo hi : Int) : spec_l01In.f a lo hi = some (inB a lo hi) := by
  unfold spec_l01In.f inB
  by_cases h : lo ≤ a <;> simp [h]

/-! ### spec_l01Is -/
theorem spec_l01Is.letter (n x : Int) (h1 : 1 ≤ n) (h8 : n ≤ 8) (hx : -9223372036854775808 ≤ x ∧ x ≤ 9223372036854775807) : (inB x 1 (n - 1) || inB (wrap64 (-x)) 1 (n - 1)) = letterB n x := by
  unfold inB letterB inB wrap64
  rw [Bool.eq_iff_iff]; simp; omega
theorem spec_l01Is.ev0 (n : Int) (l : List Int) (h1 : 1 ≤ n) (h8 : n ≤ 8) (hb : l.length ≤ 200) (hf : Fits l) : ∀ (d i : Nat), i + d = l.length →
    Ev (fun k => spec_l01Is.l0 k (i : Int) n l) ((l.drop i).all (letterB n)) := by
  intro d
  induction d with
  | zero =>
    intro i hi
    refine Ev.succ ?_
    simp (disch := omega) only [spec_l01Is.l0, if_neg]
    exact Ev.pure (by rw [List.drop_of_length_le (by omega)]; rfl)
  | succ d ih =>
    intro i hi
    refine Ev.succ ?_
    have hx := hf (rd l i) (rd_mem l i (by omega))
    have hl := spec_l01Is.letter n (rd l i) h1 h8 hx
    have hw : wrap64 (n - 1) = n - 1 := w64 (by omega) (by omega)
    have hw2 : wrap64 ((i : Int) + 1) = ((i + 1 : Nat) : Int) := w64 (by omega) (by omega)
    simp (disch := omega) only [spec_l01Is.l0, if_pos, hw, hw2, spec_l01In.eq, Option.bind_some]
    rw [drop_rd l i (by omega), List.all_cons, ← hl]
    cases h : inB (rd l i) 1 (n - 1) with
    | true => simp only [if_true, Bool.true_or, Bool.true_and]; exact ih (i + 1) (by omega)
    | false =>
      cases h' : inB (wrap64 (-(rd l i))) 1 (n - 1) with
      | true => simp only [if_true, Bool.false_or, Bool.true_and, Bool.false_eq_true, if_false]; exact ih (i + 1) (by omega)
      | false => exact Ev.pure (by simp)
theorem spec_l01Is.ev (n : Int) (l : List Int) (hf : Fits l) : Ev (fun k => spec_l01Is.f k n l) (isBraidB n l) := by
  simp only [spec_l01Is.f, spec_l01In.eq, Option.bind_some]
  unfold isBraidB
  cases hn : inB n 1 8 with
  | false =>
    refine Ev.succ ?_
    simp [spec_l01Is.j0]
    exact Ev.now _
  | true =>
    obtain ⟨h1, h8⟩ := inB_iff.1 hn
    refine Ev.succ ?_
    simp only [if_true, spec_l01Is.j0, Bool.true_and]
    by_cases hl : l.length ≤ 200
    · have : ¬ ((l.length : Int) > 200) := by omega
      simp only [this, decide_false, Bool.false_eq_true, if_false, hl, decide_true, Bool.true_and]
      exact Ev.to (spec_l01Is.ev0 n l h1 h8 hl hf l.length 0 (by omega)) (by simp)
    · have : ((l.length : Int) > 200) := by omega
      simp only [this, decide_true, if_true, hl, decide_false, Bool.false_and]
      exact Ev.now _

/-! ### spec_l01Perm -/
-- use LibPure
theorem spec_l10Pure.fill (n : Int) (hn : 0 ≤ n ∧ n ≤ 8) : fillL n.toNat = iota 0 n.toNat ++ List.replicate (8 - n.toNat) 0 := by
  have h : ∀ m : Fin 9, fillL m.val = iota 0 m.val ++ List.replicate (8 - m.val) 0 := by decide
  exact h ⟨n.toNat, by omega⟩
theorem spec_l10Pure.sw1 {n : Nat} {xs z : List Int} (h : xs.length = n) {x : Int} (hn : n ≤ 8) (hx : 1 ≤ absI x ∧ absI x < (n : Int)) : sw (xs ++ z) x = swI xs x ++ z := by
  have hb := absI_eq x
  have h8 : -8 ≤ x ∧ x ≤ 8 := by split at hb <;> omega
  have W : wrap64 (-x) = -x := w64 (by omega) (by omega)
  have ha : mx x (-x) = absI x := rfl
  have w1 : wrap64 (absI x - 1) = absI x - 1 := w64 (by omega) (by omega)
  simp only [sw, W, ha, w1, swI]
  rw [rd_app xs z (by omega) (by omega), rd_app xs z (x := absI x) (by omega) (by omega), List.set_append_left _ _ (by omega), List.set_append_left _ _ (by simp; omega), List.set_comm _ _ (by omega)]
theorem spec_l10Pure.fold {n : Nat} (hn : n ≤ 8) (z : List Int) {l : List Int} (hl : ∀ x ∈ l, 1 ≤ absI x ∧ absI x < (n : Int)) : ∀ {xs : List Int}, xs.length = n → l.foldl sw (xs ++ z) = l.foldl swI xs ++ z := by
  induction l with
  | nil => intro xs h; rfl
  | cons x l ih =>
    intro xs h
    rw [List.foldl_cons, List.foldl_cons, spec_l10Pure.sw1 h hn (hl x (by simp))]
    exact ih (fun y hy => hl y (by simp [hy])) (by simp [swI, h])
theorem spec_l10Pure.perm {n : Nat} (hn : n ≤ 8) {s : List Int} (hs : InN n s) (z : List Int) : ∀ k, k ≤ n → permGo (s ++ z) k = endsGo s n k ++ List.replicate (8 - n) 0
  | 0, _ => by
    rw [permGo, endsGo, a8, List.replicate_append_replicate]
    congr 1; omega
  | k + 1, h => by
    have hr := rd_in hs (x := (k : Int)) (by omega) (by omega)
    have hl := endsGo_length s n k
    rw [permGo, endsGo, spec_l10Pure.perm hn hs z k (by omega), rd_app s z (by omega) (by rw [hs.1]; omega), List.set_append_left _ _ (by omega)]
theorem spec_l10Pure.permEq (n : Int) (hn : 0 ≤ n ∧ n ≤ 8) {l : List Int} (hl : ∀ x ∈ l, 1 ≤ absI x ∧ absI x < (n.toNat : Int)) : permL n l = endsGo (atL n.toNat l) n.toNat n.toNat ++ List.replicate (8 - n.toNat) 0 := by
  rw [permL, spec_l10Pure.fill n hn, spec_l10Pure.fold (by omega) _ hl (iota_length 0 _)]
  exact spec_l10Pure.perm (by omega) (atL_in hl) _ _ (Nat.le_refl _)
theorem spec_l10Pure.base (n : Int) (hn : 0 ≤ n ∧ n ≤ 8) : endsGo (atL n.toNat []) n.toNat n.toNat = iota 0 n.toNat := by
  have h : ∀ m : Fin 9, endsGo (atL m.val []) m.val m.val = iota 0 m.val := by decide
  exact h ⟨n.toNat, by omega⟩

/-! ### l11 -/
-- use LibCyc
def l11.S (n : Nat) (seen : List Bool) (W : List Int) : Prop := W.length = 8 ∧ ∀ x : Nat, x < n → (seen.getD x false = true ↔ 0 ≤ rd W (x : Int))
def l11.O (n : Nat) (W : List Int) (O : List (List Int)) : Prop := (∀ x : Nat, x < n → rd W (x : Int) < (O.length : Int)) ∧ ∀ k : Nat, k < O.length → O[k]? = some (partL n W (k : Int))
theorem l11.in1 (n : Nat) (hn : n ≤ 8) (e e8 : List Int) (he : InN n e) (h8 : ∀ y : Int, 0 ≤ y → y < (n : Int) → rd e8 y = rd e y) (c : Int) (hc : 0 ≤ c) : ∀ (d : Nat) (seen : List Bool) (acc W : List Int) (y : Int), unseen seen ≤ d → seen.length = n → 0 ≤ y ∧ y < (n : Int) → l11.S n seen W → acc.Nodup → (∀ z, z ∈ acc ↔ (0 ≤ z ∧ z < (n : Int)) ∧ rd W z = c) →
    ∃ W', l11.S n (cyc e d seen acc y).1 W' ∧ (cyc e d seen acc y).2.Nodup ∧ (∀ z, z ∈ (cyc e d seen acc y).2 ↔ (0 ≤ z ∧ z < (n : Int)) ∧ rd W' z = c) ∧ (∀ z : Nat, z < n → rd W' (z : Int) = rd W (z : Int) ∨ (rd W (z : Int) < 0 ∧ rd W' (z : Int) = c)) ∧
      ∀ (R : List Int × Int) (x : Int), Ev (fun k => l11.l0 (n : Int) e8 k W' (x + 1) (c + 1)) R → Ev (fun k => l11.l1 (n : Int) e8 k W x c y) R
  | 0, seen, acc, W, y, hu, hl, hy, hS, ha, hm => by
    have hs : seen.getD y.toNat false = true := by
      cases hs : seen.getD y.toNat false with
      | true => rfl
      | false => have := unseen_pos (seen := seen) (y := y.toNat) (by omega) hs; omega
    have hw := (hS.2 y.toNat (by omega)).1 hs
    rw [show ((y.toNat : Nat) : Int) = y by omega] at hw
    refine ⟨W, hS, ha, hm, fun z _ => .inl rfl, fun R x next => ?_⟩
    refine Ev.succ ?_
    have c1 : ¬ rd W y < 0 := by omega
    simp only [l11.l1, if_neg c1]
    exact next
  | d + 1, seen, acc, W, y, hu, hl, hy, hS, ha, hm => by
    rw [cyc]
    by_cases hs : seen.getD y.toNat false = true
    · have hw := (hS.2 y.toNat (by omega)).1 hs
      rw [show ((y.toNat : Nat) : Int) = y by omega] at hw
      rw [if_pos hs]
      refine ⟨W, hS, ha, hm, fun z _ => .inl rfl, fun R x next => ?_⟩
      refine Ev.succ ?_
      have c1 : ¬ rd W y < 0 := by omega
      simp only [l11.l1, if_neg c1]
      exact next
    · have hf : seen.getD y.toNat false = false := by simpa using hs
      have h1 := unseen_set (seen := seen) (y := y.toNat) (by omega) hf
      have hw : rd W y < 0 := by
        have := mt (hS.2 y.toNat (by omega)).2 hs
        rw [show ((y.toNat : Nat) : Int) = y by omega] at this
        omega
      obtain ⟨m, rfl⟩ : ∃ m : Nat, y = (m : Int) := ⟨y.toNat, by omega⟩
      simp only [Int.toNat_natCast] at hs hf h1 ⊢
      rw [if_neg hs]
      have hW8 := hS.1
      have gs : rd (W.set m c) (m : Int) = c := rd_set_eq _ _ _ (by omega)
      have gn : ∀ z : Nat, z ≠ m → rd (W.set m c) (z : Int) = rd W (z : Int) := fun z hz => rd_set_ne _ _ _ _ hz
      have hb := rd_in he hy.1 hy.2
      obtain ⟨W', r1, r2, r3, r4, r5⟩ := l11.in1 n hn e e8 he h8 c hc d (seen.set m true) (acc ++ [(m : Int)]) (W.set m c) (rd e (m : Int)) (by omega) (by simpa using hl) hb
        ⟨by simpa using hS.1, fun x hx => by
          by_cases ex : x = m
          · subst ex
            rw [gs]
            simp [List.getD_eq_getElem?_getD, show x < seen.length by omega, hc]
          · rw [gn x ex, ← hS.2 x hx]
            simp [List.getD_eq_getElem?_getD, List.getElem?_set, Ne.symm ex]⟩
        (by
          rw [List.nodup_append]
          refine ⟨ha, by simp, fun a ha' b hb' hab => ?_⟩
          rw [List.mem_singleton] at hb'
          have := (hm a).1 ha'
          rw [hab, hb'] at this
          omega)
        (fun z => by
          rw [List.mem_append, List.mem_singleton]
          constructor
          · rintro (hz | hz)
            · have h2 := (hm z).1 hz
              refine ⟨h2.1, ?_⟩
              obtain ⟨q, rfl⟩ : ∃ q : Nat, z = (q : Int) := ⟨z.toNat, by omega⟩
              rw [gn q (fun hq => by subst hq; omega)]
              exact h2.2
            · subst hz; exact ⟨hy, gs⟩
          · rintro ⟨hz1, hz2⟩
            obtain ⟨q, rfl⟩ : ∃ q : Nat, z = (q : Int) := ⟨z.toNat, by omega⟩
            by_cases hq : q = m
            · subst hq; exact .inr rfl
            · rw [gn q hq] at hz2
              exact .inl ((hm _).2 ⟨hz1, hz2⟩))
      refine ⟨W', r1, r2, r3, fun z hz => ?_, fun R x next => ?_⟩
      · by_cases hq : z = m
        · subst hq
          rcases r4 z hz with h | h
          · right; exact ⟨hw, h.trans gs⟩
          · rw [gs] at h; omega
        · have := r4 z hz
          rw [gn z hq] at this
          exact this
      · refine Ev.succ ?_
        simp only [l11.l1, if_pos hw, h8 _ hy.1 hy.2, Int.toNat_natCast]
        exact r5 R x next
theorem partL_congr {n : Nat} {W W' : List Int} {k : Int} (h : ∀ z : Nat, z < n → (rd W (z : Int) = k ↔ rd W' (z : Int) = k)) : partL n W k = partL n W' k := by
  unfold partL
  refine List.filter_congr fun y hy => ?_
  have := iota_mem hy
  have h1 := h y.toNat (by omega)
  rw [show ((y.toNat : Nat) : Int) = y by omega] at h1
  exact decide_eq_decide.2 h1
theorem l11.out1 (n : Nat) (hn : n ≤ 8) (e e8 : List Int) (he : InN n e) (h8 : ∀ y : Int, 0 ≤ y → y < (n : Int) → rd e8 y = rd e y) : ∀ (d x : Nat) (seen : List Bool) (W : List Int) (O : List (List Int)), x + d = n → seen.length = n → l11.S n seen W → l11.O n W O →
    ∃ W', W'.length = 8 ∧ Ev (fun k => l11.l0 (n : Int) e8 k W (x : Int) (O.length : Int)) (W', ((compGo e n d x seen O).length : Int)) ∧ l11.O n W' (compGo e n d x seen O)
  | 0, x, seen, W, O, hx, hl, hS, hO => by
    refine ⟨W, hS.1, Ev.succ ?_, by rw [compGo]; exact hO⟩
    have c1 : ¬ (x : Int) < (n : Int) := by omega
    simp only [l11.l0, if_neg c1, compGo]
    exact Ev.now _
  | d + 1, x, seen, W, O, hx, hl, hS, hO => by
    have c1 : (x : Int) < (n : Int) := by omega
    rw [compGo]
    by_cases hs : seen.getD x false = true
    · rw [if_pos hs]
      have hw := (hS.2 x (by omega)).1 hs
      obtain ⟨W', h1, h2, h3⟩ := l11.out1 n hn e e8 he h8 d (x + 1) seen W O (by omega) hl hS hO
      refine ⟨W', h1, Ev.succ ?_, h3⟩
      simp only [l11.l0, if_pos c1, if_pos hw]
      exact h2
    · rw [if_neg hs]
      have hw : ¬ 0 ≤ rd W (x : Int) := mt (hS.2 x (by omega)).2 hs
      have hu := unseen_le seen
      obtain ⟨V, r1, r2, r3, r4, r5⟩ := l11.in1 n hn e e8 he h8 (O.length : Int) (by omega) n seen [] W (x : Int) (by omega) hl ⟨by omega, by omega⟩ hS (by simp) (fun z => by
        constructor
        · intro h; simp at h
        · rintro ⟨hz1, hz2⟩
          have := hO.1 z.toNat (by omega)
          rw [show ((z.toNat : Nat) : Int) = z by omega] at this
          omega)
      have hsort : sortI (cyc e n seen [] (x : Int)).2 = partL n V (O.length : Int) := sortI_eq (perm_of_mem r2 (partL_pw n V _) (fun y => by rw [r3 y, mem_partL])) (partL_pw n V _)
      have hVO : l11.O n V (O ++ [sortI (cyc e n seen [] (x : Int)).2]) := by
        refine ⟨fun z hz => ?_, fun k hk => ?_⟩
        · have h1 := hO.1 z hz
          simp only [List.length_append, List.length_cons, List.length_nil]
          rcases r4 z hz with h | h
          · omega
          · omega
        · simp only [List.length_append, List.length_cons, List.length_nil] at hk
          by_cases hkl : k = O.length
          · subst hkl
            rw [List.getElem?_append_right (Nat.le_refl _), hsort]
            simp
          · rw [List.getElem?_append_left (by omega), hO.2 k (by omega)]
            congr 1
            refine partL_congr fun z hz => ?_
            rcases r4 z hz with h | h
            · rw [h]
            · constructor
              · intro h2; omega
              · intro h2; omega
      obtain ⟨W', h1, h2, h3⟩ := l11.out1 n hn e e8 he h8 d (x + 1) _ V (O ++ [sortI (cyc e n seen [] (x : Int)).2]) (by omega) (by rw [cyc_length]; exact hl) r1 hVO
      refine ⟨W', h1, Ev.succ ?_, h3⟩
      simp only [l11.l0, if_pos c1, if_neg hw]
      refine r5 _ _ ?_
      simp only [List.length_append, List.length_cons, List.length_nil] at h2
      exact h2
theorem l11.fill8 : l11.fill 8 = List.replicate 8 (-1) := rfl
theorem rd_rep (m : Nat) (v : Int) (x : Nat) (h : x < m) : rd (List.replicate m v) (x : Int) = v := by simp [rd, List.getD_eq_getElem?_getD, h]
/-- The reference's components: which one each strand is of. -/
theorem l11.ev (n : Int) (l : List Int) (h : isBraidB n l = true) : ∃ W, W.length = 8 ∧ Ev (fun k => l11.f k n l) (W, ((compsM n l).length : Int)) ∧ l11.O n.toNat W (compsM n l) := by
  obtain ⟨hn, hb, _⟩ := isBraidB_iff.1 h
  have hi := endsGo_in (atL_in (braid_sizes h)) n.toNat (Nat.le_refl _)
  have := l11.out1 n.toNat (by omega) (endsGo (atL n.toNat l) n.toNat n.toNat) (permL n l) hi (fun y h0 h1 => by rw [spec_l10Pure.permEq n (by omega) (braid_sizes h)]; exact rd_app _ _ h0 (by rw [hi.1]; exact h1)) n.toNat 0 (List.replicate n.toNat false) (l11.fill 8) [] (by omega) (by simp)
    ⟨rfl, fun x hx => by rw [l11.fill8, rd_rep 8 (-1) x (by omega)]; simp [List.getD_eq_getElem?_getD, hx]⟩ ⟨fun x hx => by rw [l11.fill8, rd_rep 8 (-1) x (by omega)]; simp, fun k hk => by simp at hk⟩
  obtain ⟨W, h1, h2, h3⟩ := this
  refine ⟨W, h1, ?_, h3⟩
  simp only [l11.f]
  rw [show ((n.toNat : Nat) : Int) = n by omega] at h2
  exact h2
theorem l11.good_of {n : Int} {l : List Int} (h : isBraidB n l = true) : l11.good n l = true := by
  obtain ⟨hn, hb, hx⟩ := isBraidB_iff.1 h
  have hs := braid_sizes h
  simp only [l11.good, Bool.and_eq_true, decide_eq_true_eq, List.all_eq_true]
  refine ⟨⟨by omega, by omega⟩, fun x hx' => ?_⟩
  have h1 := hx x hx'
  have h2 := hs x hx'
  have W : wrap64 (-x) = -x := w64 (by omega) (by omega)
  have ha : mx x (-x) = absI x := rfl
  rw [W, ha]; omega

/-! ### impl_within -/
theorem impl_within.eq (a lo hi : Int) : impl_within.f a lo hi = some (inB a lo hi) := by
  unfold impl_within.f inB
  by_cases h : lo ≤ a <;> simp [h]

/-! ### impl_isCount -/
theorem impl_isCount.eq (a : Int) : impl_isCount.f a = some (inB a 1 8) := by simp only [impl_isCount.f, impl_within.eq, Option.bind_some]

/-! ### impl_isLetter -/
theorem impl_isLetter.eq (x n : Int) (h1 : 1 ≤ n) (h8 : n ≤ 8) : impl_isLetter.f x n = some (letterB n x) := by
  simp (disch := omega) only [impl_isLetter.f, impl_within.eq, Option.bind_some, w64]
  unfold letterB
  split <;> simp_all

/-! ### impl_IsBraid -/
theorem impl_IsBraid.ev0 (n : Int) (l : List Int) (h1 : 1 ≤ n) (h8 : n ≤ 8) (hb : l.length ≤ 200) : ∀ (d i : Nat), i + d = l.length →
    Ev (fun k => impl_IsBraid.l0 k l (l.length : Int) (i : Int) n l) ((l.drop i).all (letterB n)) := by
  intro d
  induction d with
  | zero =>
    intro i hi
    refine Ev.succ ?_
    simp (disch := omega) only [impl_IsBraid.l0, if_neg]
    exact Ev.pure (by rw [List.drop_of_length_le (by omega)]; rfl)
  | succ d ih =>
    intro i hi
    refine Ev.succ ?_
    simp (disch := omega) only [impl_IsBraid.l0, if_pos, w64, impl_isLetter.eq, Option.bind_some]
    rw [drop_rd l i (by omega), List.all_cons]
    cases h : letterB n (rd l i) with
    | true => simp only [if_true, Bool.true_and]; exact ih (i + 1) (by omega)
    | false => exact Ev.pure (by simp)
theorem impl_IsBraid.ev (n : Int) (l : List Int) : Ev (fun k => impl_IsBraid.f k n l) (isBraidB n l) := by
  simp only [impl_IsBraid.f, impl_isCount.eq, Option.bind_some]
  unfold isBraidB
  cases hn : inB n 1 8 with
  | false =>
    refine Ev.succ ?_
    simp [impl_IsBraid.j0]
    exact Ev.now _
  | true =>
    obtain ⟨h1, h8⟩ := inB_iff.1 hn
    refine Ev.succ ?_
    simp only [if_true, impl_IsBraid.j0, Bool.true_and]
    by_cases hl : l.length ≤ 200
    · have : ¬ ((l.length : Int) > 200) := by omega
      simp only [this, decide_false, Bool.false_eq_true, if_false, hl, decide_true, Bool.true_and]
      exact Ev.to (impl_IsBraid.ev0 n l h1 h8 hl l.length 0 (by omega)) (by simp)
    · have : ((l.length : Int) > 200) := by omega
      simp only [this, decide_true, if_true, hl, decide_false, Bool.false_and]
      exact Ev.now _

/-! ### impl_zeroRows -/
-- use LibMat
theorem impl_zeroRows.ev0 (n : Nat) (hn : n ≤ 1048576) : ∀ (d i : Nat) (acc : List (List Int)), i + d = n → acc.length = i →
    Ev (fun t => impl_zeroRows.l0 t (n : Int) acc (n : Int) (i : Int)) (acc ++ List.replicate d (List.replicate n 0)) := by
  intro d
  induction d with
  | zero =>
    intro i acc hi ha
    refine Ev.succ ?_
    have c1 : ¬ (i : Int) < (n : Int) := by omega
    simp only [impl_zeroRows.l0, if_neg c1]
    exact Ev.pure (by simp)
  | succ d ih =>
    intro i acc hi ha
    refine Ev.succ ?_
    have c1 : (i : Int) < (n : Int) := by omega
    have c2 : 0 ≤ (n : Int) := by omega
    have c3 : n ≤ 35184372088832 := by omega
    have c4 : acc.length < 5864062014805 := by omega
    have w1 := Aside0.mk (w64 (x := (i : Int) + 1) (by omega) (by omega))
    simp only [impl_zeroRows.l0, if_pos c1, if_pos c2, if_pos c3, if_pos c4, w1.out, Int.toNat_natCast]
    refine Ev.to (ih (i + 1) _ (by omega) (by simp; omega)) ?_
    rw [List.replicate_succ]
    simp
theorem impl_zeroRows.ev (n : Nat) (hn : n ≤ 1048576) : Ev (fun t => impl_zeroRows.f t (n : Int)) (List.replicate n (List.replicate n 0)) := by
  simp only [impl_zeroRows.f]
  exact Ev.to (impl_zeroRows.ev0 n hn n 0 [] (by omega) rfl) (by simp)

/-! ### impl_size -/
theorem impl_size.eq (x : Int) (h : -4611686018427387904 ≤ x ∧ x ≤ 4611686018427387904) : impl_size.f x = some (absI x) := by
  have e : wrap64 (-x) = -x := w64 (by omega) (by omega)
  simp only [impl_size.f, e, absI]

/-! ### impl_strandsOf -/
-- use LibPure
theorem impl_strandsOf.ev0 (n : Nat) (hn : n ≤ 8) : ∀ (d i : Nat) (acc : List Int), i + d = n → acc.length ≤ i → Ev (fun k => impl_strandsOf.l0 k acc (n : Int) (i : Int)) (acc ++ iota (i : Int) d) := by
  intro d
  induction d with
  | zero =>
    intro i acc hi ha
    refine Ev.succ ?_
    simp (disch := omega) only [impl_strandsOf.l0, if_neg]
    exact Ev.pure (by simp [iota])
  | succ d ih =>
    intro i acc hi ha
    refine Ev.succ ?_
    have c1 : (i : Int) < (n : Int) := by omega
    have c2 : acc.length < 17592186044416 := by omega
    have w1 := Aside0.mk (show wrap64 ((i : Int) + 1) = ((i + 1 : Nat) : Int) from (w64 (by omega) (by omega)).trans (by omega))
    simp only [impl_strandsOf.l0, if_pos c1, if_pos c2, w1.out]
    exact Ev.to (ih (i + 1) (acc ++ [(i : Int)]) (by omega) (by simp; omega)) (by simp [iota])
theorem impl_strandsOf.ev (n : Int) (hn : 0 ≤ n ∧ n ≤ 8) : Ev (fun k => impl_strandsOf.f k n) (iota 0 n.toNat) := by
  obtain ⟨m, rfl⟩ : ∃ m : Nat, n = (m : Int) := ⟨n.toNat, by omega⟩
  simp only [impl_strandsOf.f, Int.toNat_natCast]
  exact Ev.to (impl_strandsOf.ev0 m (by omega) m 0 [] (by omega) (by simp)) (by simp)

/-! ### impl_follow -/
-- use LibPure
theorem impl_follow.ev0 (n : Nat) (hn : n ≤ 8) (l : List Int) (hb : l.length ≤ 200) (hl : ∀ x ∈ l, 1 ≤ absI x ∧ absI x < (n : Int)) : ∀ (d i : Nat) (xs : List Int), i + d = l.length → xs.length = n →
    Ev (fun k => impl_follow.l0 k xs l (l.length : Int) (i : Int)) ((l.drop i).foldl swI xs) := by
  intro d
  induction d with
  | zero =>
    intro i xs hi ha
    refine Ev.succ ?_
    simp (disch := omega) only [impl_follow.l0, if_neg]
    exact Ev.pure (by rw [List.drop_of_length_le (by omega)]; rfl)
  | succ d ih =>
    intro i xs hi ha
    have hx := hl _ (rd_mem l i (by omega))
    have hb := absI_eq (rd l (i : Int))
    have h8 : -8 ≤ rd l (i : Int) ∧ rd l (i : Int) ≤ 8 := by split at hb <;> omega
    have hsz := Aside0.mk (impl_size.eq (rd l (i : Int)) (by omega))
    have w1 := Aside0.mk (show wrap64 ((i : Int) + 1) = ((i + 1 : Nat) : Int) from (w64 (by omega) (by omega)).trans (by omega))
    have wk := Aside0.mk (w64 (x := absI (rd l (i : Int)) - 1) (by omega) (by omega))
    have c1 : (i : Int) < (l.length : Int) := by omega
    have c2 : 0 ≤ (i : Int) := by omega
    have c3 : 0 ≤ absI (rd l (i : Int)) - 1 := by omega
    have c4 : absI (rd l (i : Int)) - 1 < (xs.length : Int) := by omega
    have c5 : 0 ≤ absI (rd l (i : Int)) := by omega
    have c6 : absI (rd l (i : Int)) < (xs.length : Int) := by omega
    refine Ev.succ ?_
    rw [drop_rd l i (by omega), List.foldl_cons]
    simp only [impl_follow.l0, if_pos c1, if_pos c2, hsz.out, Option.bind_some, wk.out, if_pos c3, if_pos c4, if_pos c5, if_pos c6, w1.out]
    exact ih (i + 1) (swI xs (rd l (i : Int))) (by omega) (by simp [swI, ha])
theorem impl_follow.ev (n : Int) (l : List Int) (f : Int) (h : isBraidB n l = true) : Ev (fun k => impl_follow.f k n l f) (atL n.toNat l) := by
  obtain ⟨hn, hb, _⟩ := isBraidB_iff.1 h
  simp only [impl_follow.f]
  refine Ev.bind (impl_strandsOf.ev n (by omega)) ?_
  exact Ev.to (impl_follow.ev0 n.toNat (by omega) l hb (braid_sizes h) l.length 0 (iota 0 n.toNat) (by omega) (iota_length _ _)) (by simp [atL])

/-! ### impl_CrossingsOf -/
-- use LibCross
open Go.Proofs.Ytcbomfkimohlfaa.LibMx Go.Proofs.Ytcbomfkimohlfaa.LibCr in
theorem impl_CrossingsOf.ev (n : Int) (l : List Int) : Ev (fun k => impl_CrossingsOf.f k n l) (if isBraidB n l = true then (cr.runR l (iota 0 n.toNat) (List.replicate n.toNat (List.replicate n.toNat 0)), 0) else ([], 1)) := by
  simp only [impl_CrossingsOf.f]
  refine Ev.bind (impl_IsBraid.ev n l) ?_
  by_cases hb : isBraidB n l = true
  · simp only [if_pos hb]
    obtain ⟨hn, hl, hx⟩ := isBraidB_iff.1 hb
    have hz := impl_zeroRows.ev n.toNat (by omega)
    rw [show ((n.toNat : Nat) : Int) = n by omega] at hz
    refine Ev.bind hz ?_
    refine Ev.bind (impl_strandsOf.ev n (by omega)) ?_
    have hg : (1 ≤ n ∧ n ≤ 8) ∧ cr.goodN n.toNat l ∧ cr.InN n.toNat (iota 0 n.toNat) ∧ iv.Sq n.toNat (List.replicate n.toNat (List.replicate n.toNat (0 : Int))) := ⟨hn, crx.goodN_of hb, (crx.start n.toNat (by omega)).hx, crx.zero_Sq n.toNat⟩
    simp only [if_pos hg]
    exact Ev.now _
  · simp only [if_neg hb]
    exact Ev.now _

/-! ### impl_endsOf -/
-- use LibPure
theorem impl_endsOf.ev0 (n : Nat) (hn : n ≤ 8) (s : List Int) (hs : InN n s) : ∀ (d i : Nat), i + d = n →
    Ev (fun k => impl_endsOf.l0 k (endsGo s n i) s (s.length : Int) (i : Int)) (endsGo s n n) := by
  have hl := hs.1
  intro d
  induction d with
  | zero =>
    intro i hi
    refine Ev.succ ?_
    simp (disch := omega) only [impl_endsOf.l0, if_neg]
    obtain rfl : i = n := by omega
    exact Ev.now _
  | succ d ih =>
    intro i hi
    have hr := rd_in hs (x := (i : Int)) (by omega) (by omega)
    have he := endsGo_length s n i
    have w1 := Aside0.mk (show wrap64 ((i : Int) + 1) = ((i + 1 : Nat) : Int) from (w64 (by omega) (by omega)).trans (by omega))
    have c1 : (i : Int) < (s.length : Int) := by omega
    have c2 : 0 ≤ (i : Int) := by omega
    have c4 : rd s (i : Int) < ((endsGo s n i).length : Int) := by omega
    refine Ev.succ ?_
    simp only [impl_endsOf.l0, if_pos c1, if_pos c2, if_pos hr.1, if_pos c4, w1.out]
    exact ih (i + 1) (by omega)
theorem impl_endsOf.ev (n : Int) (l : List Int) (h : isBraidB n l = true) : Ev (fun k => impl_endsOf.f k n l) (endsGo (atL n.toNat l) n.toNat n.toNat) := by
  obtain ⟨hn, hb, _⟩ := isBraidB_iff.1 h
  have c1 : 0 ≤ n := by omega
  have c2 : n.toNat ≤ 35184372088832 := by omega
  simp only [impl_endsOf.f, if_pos c1, if_pos c2]
  refine Ev.bind (impl_follow.ev n l 0 h) ?_
  exact impl_endsOf.ev0 n.toNat (by omega) _ (atL_in (braid_sizes h)) n.toNat 0 (by omega)

/-! ### slices_insertionSortOrdered_int64 -/
-- use LibCyc
theorem cmp_Less_int64.eq (a b : Int) : cmp_Less_int64.f a b = some (decide (a < b)) := by
  unfold cmp_Less_int64.f cmp_isNaN_int64.f
  simp
theorem slices_insertionSortOrdered_int64.ev1 (n : Nat) (hn : n ≤ 1000) (i : Nat) (R : List Int) : ∀ (j : Nat) (xs : List Int), xs.length = n → j < n →
    Ev (fun k => slices_insertionSortOrdered_int64.l0 k (insGo j xs) 0 (n : Int) (wrap64 ((i : Int) + 1))) R → Ev (fun k => slices_insertionSortOrdered_int64.l1 k xs 0 (n : Int) (i : Int) (j : Int)) R
  | 0, xs, hl, hj, next => by
    refine Ev.succ ?_
    have c1 : ¬ ((0 : Nat) : Int) > 0 := by omega
    simp only [slices_insertionSortOrdered_int64.l1, if_neg c1]
    exact next
  | j + 1, xs, hl, hj, next => by
    have ih := slices_insertionSortOrdered_int64.ev1 n hn i R j
    have c1 : (((j + 1 : Nat) : Int)) > 0 := by omega
    have c2 : (0 : Int) ≤ ((j + 1 : Nat) : Int) := by omega
    have c3 : ((j + 1 : Nat) : Int) < (xs.length : Int) := by omega
    have w1 : wrap64 (((j + 1 : Nat) : Int) - 1) = (j : Int) := (w64 (by omega) (by omega)).trans (by omega)
    have c4 : (0 : Int) ≤ (j : Int) := by omega
    have c5 : (j : Int) < (xs.length : Int) := by omega
    refine Ev.succ ?_
    simp only [slices_insertionSortOrdered_int64.l1, if_pos c1, if_pos c2, if_pos c3, w1, if_pos c4, if_pos c5, cmp_Less_int64.eq, Option.bind_some, Int.toNat_natCast, decide_eq_true_eq]
    rw [insGo] at next
    by_cases h : rd xs ((j + 1 : Nat) : Int) < rd xs (j : Int)
    · rw [if_pos h] at next
      simp only [if_pos h]
      exact ih _ (by simpa using hl) (by omega) next
    · rw [if_neg h] at next
      simp only [if_neg h]
      exact next
theorem slices_insertionSortOrdered_int64.ev0 (n : Nat) (hn : n ≤ 1000) : ∀ (d i : Nat) (xs : List Int), xs.length = n → i + d = n →
    Ev (fun k => slices_insertionSortOrdered_int64.l0 k xs 0 (n : Int) (i : Int)) (sortGo d i xs)
  | 0, i, xs, hl, hi => by
    refine Ev.succ ?_
    have c1 : ¬ (i : Int) < (n : Int) := by omega
    simp only [slices_insertionSortOrdered_int64.l0, if_neg c1, sortGo]
    exact Ev.now _
  | d + 1, i, xs, hl, hi => by
    have ih := slices_insertionSortOrdered_int64.ev0 n hn d (i + 1) (insGo i xs) (by rw [insGo_length]; exact hl) (by omega)
    have c1 : (i : Int) < (n : Int) := by omega
    have w1 : wrap64 ((i : Int) + 1) = ((i + 1 : Nat) : Int) := (w64 (by omega) (by omega)).trans (by omega)
    refine Ev.succ ?_
    simp only [slices_insertionSortOrdered_int64.l0, if_pos c1, sortGo]
    exact slices_insertionSortOrdered_int64.ev1 n hn i _ i xs hl (by omega) (by rw [w1]; exact ih)
theorem slices_insertionSortOrdered_int64.ev (xs : List Int) (hn : xs.length ≤ 1000) : Ev (fun k => slices_insertionSortOrdered_int64.f k xs 0 (xs.length : Int)) (sortI xs) := by
  have w1 : wrap64 ((0 : Int) + 1) = ((1 : Nat) : Int) := (w64 (by omega) (by omega)).trans (by omega)
  simp only [slices_insertionSortOrdered_int64.f, w1]
  by_cases h0 : xs.length = 0
  · have e1 : xs = [] := List.length_eq_zero_iff.1 h0
    subst e1
    refine Ev.succ ?_
    simp only [slices_insertionSortOrdered_int64.l0]
    exact Ev.now _
  · exact slices_insertionSortOrdered_int64.ev0 _ hn _ 1 xs rfl (by omega)

/-! ### bits_Len64 -/
theorem bits_Len64.ev (x : Int) (h : 0 ≤ x ∧ x ≤ 255) : ∃ r, Ev (fun k => bits_Len64.f k x) r := by
  have c1 : ¬ x ≥ 4294967296 := by omega
  have c2 : ¬ x ≥ 65536 := by omega
  have c3 : ¬ x ≥ 256 := by omega
  have c4 : 0 ≤ x % 256 := by omega
  have c5 : x % 256 < 256 := by omega
  have h1 : ∀ k, bits_Len64.j0 (k + 1) x 0 = bits_Len64.j0 1 x 0 := fun k => by simp only [bits_Len64.j0]
  have h2 : ∃ r, bits_Len64.j0 1 x 0 = some r := by
    simp only [bits_Len64.j0, if_neg c2, if_neg c3, if_pos c4, if_pos c5]
    exact ⟨_, rfl⟩
  obtain ⟨r, hr⟩ := h2
  refine ⟨r, ?_⟩
  simp only [bits_Len64.f, if_neg c1]
  exact Ev.succ ⟨0, fun k _ => (h1 k).trans hr⟩

/-! ### bits_Len -/
theorem bits_Len.ev (x : Int) (h : 0 ≤ x ∧ x ≤ 255) : ∃ r, Ev (fun k => bits_Len.f k x) r := by
  obtain ⟨r, hr⟩ := bits_Len64.ev x h
  exact ⟨r, by simp only [bits_Len.f]; exact Ev.bind hr (Ev.now _)⟩

/-! ### slices_pdqsortOrdered_int64 -/
theorem slices_pdqsortOrdered_int64.ev (xs : List Int) (hn : xs.length ≤ 12) (t : Int) : Ev (fun k => slices_pdqsortOrdered_int64.f k xs 0 (xs.length : Int) t) (sortI xs) := by
  have w1 : wrap64 ((xs.length : Int) - 0) = (xs.length : Int) := (w64 (by omega) (by omega)).trans (by omega)
  have c1 : (xs.length : Int) ≤ 12 := by omega
  simp only [slices_pdqsortOrdered_int64.f, w1, if_pos c1]
  exact slices_insertionSortOrdered_int64.ev xs (by omega)

/-! ### slices_Sort_int64_int64 -/
theorem u64_small : ∀ n : Fin 13, IntKind.u64.wrap ((n.val : Nat) : Int) = (n.val : Int) := by decide +kernel
theorem slices_Sort_int64_int64.ev (xs : List Int) (hn : xs.length ≤ 12) : Ev (fun k => slices_Sort_int64_int64.f k xs) (sortI xs) := by
  have e := u64_small ⟨xs.length, by omega⟩
  simp only at e
  obtain ⟨r, hr⟩ := bits_Len.ev (xs.length : Int) ⟨by omega, by omega⟩
  simp only [slices_Sort_int64_int64.f, e]
  exact Ev.bind hr (Ev.bind (slices_pdqsortOrdered_int64.ev xs hn r) (Ev.now _))

/-! ### impl_componentsOf -/
-- use LibCyc
theorem impl_componentsOf.rdOf_eq (s : List Bool) (i : Int) : rdOf false s i = s.getD i.toNat false := rfl
theorem impl_componentsOf.ev1 (n : Nat) (hn : n ≤ 8) (e : List Int) (he : InN n e) (out : List (List Int)) (x : Int) (ho : out.length ≤ 8) (R : List (List Int)) : ∀ (d : Nat) (seen : List Bool) (acc : List Int) (y : Int), unseen seen ≤ d → seen.length = n → (0 ≤ y ∧ y < (n : Int)) → acc.length + unseen seen ≤ 8 →
    Ev (fun k => impl_componentsOf.l0 k e (cyc e d seen acc y).1 (out ++ [sortI (cyc e d seen acc y).2]) (n : Int) (wrap64 (x + 1))) R →
    Ev (fun k => impl_componentsOf.l1 k e seen out acc y (n : Int) x) R
  | 0, seen, acc, y, hu, hl, hy, ha, next => by
    have hs : seen.getD y.toNat false = true := by
      cases hs : seen.getD y.toNat false with
      | true => rfl
      | false => have := unseen_pos (seen := seen) (y := y.toNat) (by omega) hs; omega
    have c1 : y < (seen.length : Int) := by omega
    have c2 : out.length < 5864062014805 := by omega
    rw [cyc] at next
    refine Ev.succ ?_
    simp only [impl_componentsOf.l1, if_pos hy.1, if_pos c1, impl_componentsOf.rdOf_eq, hs, if_true]
    refine Ev.bind (slices_Sort_int64_int64.ev acc (by omega)) ?_
    simp only [if_pos c2]
    exact next
  | d + 1, seen, acc, y, hu, hl, hy, ha, next => by
    have c1 : y < (seen.length : Int) := by omega
    rw [cyc] at next
    refine Ev.succ ?_
    simp only [impl_componentsOf.l1, if_pos hy.1, if_pos c1, impl_componentsOf.rdOf_eq]
    by_cases hs : seen.getD y.toNat false = true
    · have c2 : out.length < 5864062014805 := by omega
      rw [if_pos hs] at next
      simp only [hs, if_true]
      refine Ev.bind (slices_Sort_int64_int64.ev acc (by omega)) ?_
      simp only [if_pos c2]
      exact next
    · have hf : seen.getD y.toNat false = false := by simpa using hs
      have h1 := unseen_set (seen := seen) (y := y.toNat) (by omega) hf
      have c2 : acc.length < 17592186044416 := by omega
      have c3 : y < (e.length : Int) := by rw [he.1]; omega
      rw [if_neg hs] at next
      simp only [if_neg hs, if_pos c2, if_pos c3]
      exact impl_componentsOf.ev1 n hn e he out x ho R d _ _ _ (by omega) (by simpa using hl) (rd_in he hy.1 hy.2) (by simp; omega) next
theorem impl_componentsOf.ev0 (n : Nat) (hn : n ≤ 8) (e : List Int) (he : InN n e) : ∀ (d x : Nat) (seen : List Bool) (out : List (List Int)), x + d = n → seen.length = n → out.length ≤ x →
    Ev (fun k => impl_componentsOf.l0 k e seen out (n : Int) (x : Int)) (compGo e n d x seen out)
  | 0, x, seen, out, hx, hl, ho => by
    refine Ev.succ ?_
    have c1 : ¬ (x : Int) < (n : Int) := by omega
    simp only [impl_componentsOf.l0, if_neg c1, compGo]
    exact Ev.now _
  | d + 1, x, seen, out, hx, hl, ho => by
    have c1 : (x : Int) < (n : Int) := by omega
    have c2 : (0 : Int) ≤ (x : Int) := by omega
    have c3 : (x : Int) < (seen.length : Int) := by omega
    have w1 : wrap64 ((x : Int) + 1) = ((x + 1 : Nat) : Int) := (w64 (by omega) (by omega)).trans (by omega)
    refine Ev.succ ?_
    have er : rdOf false seen (x : Int) = seen.getD x false := rfl
    simp only [impl_componentsOf.l0, if_pos c1, if_pos c2, if_pos c3, compGo]
    by_cases hs : seen.getD x false = true
    · have hs2 : rdOf false seen (x : Int) = true := er.trans hs
      simp only [if_pos hs, if_pos hs2, w1]
      exact impl_componentsOf.ev0 n hn e he d (x + 1) seen out (by omega) hl (by omega)
    · have hs2 : ¬ rdOf false seen (x : Int) = true := fun hh => hs (er.symm.trans hh)
      simp only [if_neg hs, if_neg hs2]
      have hu := unseen_le seen
      refine impl_componentsOf.ev1 n hn e he out (x : Int) (by omega) _ n seen [] (x : Int) (by omega) hl ⟨by omega, by omega⟩ (by simp; omega) ?_
      rw [w1]
      exact impl_componentsOf.ev0 n hn e he d (x + 1) _ _ (by omega) (by rw [cyc_length]; exact hl) (by simp; omega)
theorem impl_componentsOf.ev (n : Int) (l : List Int) (h : isBraidB n l = true) : Ev (fun k => impl_componentsOf.f k n l) (compsM n l) := by
  obtain ⟨hn, hb, _⟩ := isBraidB_iff.1 h
  have c1 : 0 ≤ n := by omega
  have c2 : n.toNat ≤ 281474976710656 := by omega
  simp only [impl_componentsOf.f]
  refine Ev.bind (impl_endsOf.ev n l h) ?_
  simp only [if_pos c1, if_pos c2]
  have := impl_componentsOf.ev0 n.toNat (by omega) _ (endsGo_in (atL_in (braid_sizes h)) n.toNat (Nat.le_refl _)) n.toNat 0 (List.replicate n.toNat false) [] (by omega) (by simp) (by simp)
  rw [show ((n.toNat : Nat) : Int) = n by omega] at this
  exact this

-- says For every braid-shaped input the program's ComponentLinkings returns what the reference's returns, keeps its argument and shares no memory; no conditions.
-- row braid
-- hand laws_markInt64SS
-- use LibCyc
-- use LibLinks
theorem rd_set_nn (xs : List Int) (i : Nat) (v : Int) (z : Int) (hv : 0 ≤ v) (h : 0 ≤ rd xs z ∨ i = z.toNat) : 0 ≤ rd (xs.set i v) z := by
  unfold rd at *
  rw [List.getD_eq_getElem?_getD, List.getElem?_set]
  by_cases e : i = z.toNat
  · rw [if_pos e]
    split
    · exact hv
    · simp
  · rw [if_neg e, ← List.getD_eq_getElem?_getD]
    exact h.resolve_right e
theorem l11.nn (n : Int) (ends : List Int) : ∀ k,
    (∀ (out : List Int) (x c : Int) (r : List Int × Int), l11.l0 n ends k out x c = some r → 0 ≤ c → 0 ≤ x → (∀ z : Int, 0 ≤ z → z < x → 0 ≤ rd out z) → ∀ z : Int, 0 ≤ z → z < n → 0 ≤ rd r.1 z) ∧
    (∀ (out : List Int) (x c y : Int) (r : List Int × Int), l11.l1 n ends k out x c y = some r → 0 ≤ c → 0 ≤ x → (∀ z : Int, 0 ≤ z → z < x → 0 ≤ rd out z) → (0 ≤ rd out x ∨ y = x) → ∀ z : Int, 0 ≤ z → z < n → 0 ≤ rd r.1 z)
  | 0 => ⟨fun _ _ _ r h => by simp [l11.l0] at h, fun _ _ _ _ r h => by simp [l11.l1] at h⟩
  | k + 1 => by
    obtain ⟨ih0, ih1⟩ := l11.nn n ends k
    refine ⟨fun out x c r h hc hx hz => ?_, fun out x c y r h hc hx hz hy => ?_⟩
    · simp only [l11.l0] at h
      by_cases c1 : x < n
      · rw [if_pos c1] at h
        by_cases c2 : 0 ≤ rd out x
        · rw [if_pos c2] at h
          exact ih0 _ _ _ _ h hc (by omega) (fun z h0 h1 => by
            by_cases e : z = x
            · subst e; exact c2
            · exact hz z h0 (by omega))
        · rw [if_neg c2] at h
          exact ih1 _ _ _ _ _ h hc hx hz (Or.inr rfl)
      · rw [if_neg c1, Option.some.injEq] at h
        subst h
        exact fun z h0 h1 => hz z h0 (by omega)
    · simp only [l11.l1] at h
      by_cases c1 : rd out y < 0
      · rw [if_pos c1] at h
        refine ih1 _ _ _ _ _ h hc hx (fun z h0 h1 => rd_set_nn _ _ _ _ hc (Or.inl (hz z h0 h1))) (Or.inl ?_)
        rcases hy with hy | rfl
        · exact rd_set_nn _ _ _ _ hc (Or.inl hy)
        · exact rd_set_nn _ _ _ _ hc (Or.inr rfl)
      · rw [if_neg c1] at h
        refine ih0 _ _ _ _ h (by omega) (by omega) (fun z h0 h1 => ?_)
        by_cases e : z = x
        · subst e
          rcases hy with hy | rfl
          · exact hy
          · omega
        · exact hz z h0 (by omega)
open Go.Proofs.Ytcbomfkimohlfaa.LibMx Go.Proofs.Ytcbomfkimohlfaa.LibCr Go.Proofs.Ytcbomfkimohlfaa.LibCl in
theorem clink_law (n : Int) (l : List Int) (hf : Fits l) : ∃ (g : List (List Int)) (c : Int), Ev (fun k => spec_ComponentLinkings.f k n l) (g, c) ∧ Ev (fun k => impl_ComponentLinkings.f k n l) (g, c) ∧ g.length ≤ 8 ∧ ∀ q ∈ g, q.length ≤ 8 := by
  by_cases hb : isBraidB n l = true
  · obtain ⟨hn, hl, hx⟩ := isBraidB_iff.1 hb
    have hg := crx.goodN_of hb
    obtain ⟨ys, xs, hr⟩ := crx.run (n := n.toNat) (by omega) l _ _ _ _ hg (crx.start n.toNat (by omega))
    obtain ⟨W, hw8, hwe, hO⟩ := l11.ev n l hb
    have hle := compsM_le n l
    have hnn : ∀ z : Int, 0 ≤ z → z < n → 0 ≤ rd W z := by
      obtain ⟨kk, ek⟩ := Ev.rounds hwe
      simp only [l11.f] at ek
      exact fun z h0 h1 => (l11.nn n (permL n l) kk).1 _ _ _ _ ek (by omega) (by omega) (fun z h0 h1 => by omega) z h0 h1
    have hw : cl.okW n.toNat (compsM n l).length W := ⟨hw8, fun y hy => ⟨hnn _ (by omega) (by omega), hO.1 y hy⟩⟩
    have hc1 : 1 ≤ (compsM n l).length := by
      have := hO.1 0 (by omega)
      have h0 := hnn ((0 : Nat) : Int) (by omega) (by omega)
      omega
    have hs := clx.same hr hw hO.2
    have hS := hr.hs
    obtain ⟨sq, _⟩ := clx.tab_gt (T := cr.runT l (cr.fill n.toNat) (List.replicate 64 0)) hw
    refine ⟨cl.tab (cr.runT l (cr.fill n.toNat) (List.replicate 64 0)) W n.toNat (compsM n l).length, 0, ?_, ?_, by rw [cl.tab_len]; omega, fun q hq => ?_⟩
    · simp only [spec_ComponentLinkings.f]
      refine Ev.bind (spec_l01Is.ev n l hf) ?_
      have hc2 : l11.good n l = true ∧ cr.good l := ⟨l11.good_of hb, hg.1⟩
      simp only [if_pos hb, if_pos hc2]
      refine Ev.bind hwe ?_
      simp only [Int.toNat_natCast]
      have hc3 : cl.okW n.toNat (compsM n l).length W ∧ 1 ≤ ((compsM n l).length : Int) ∧ ((compsM n l).length : Int) ≤ 8 := ⟨hw, by omega, by omega⟩
      simp only [if_pos hc3]
      exact Ev.now _
    · simp only [impl_ComponentLinkings.f]
      refine Ev.bind (impl_CrossingsOf.ev n l) ?_
      simp only [if_pos hb, if_true]
      refine Ev.bind (impl_componentsOf.ev n l hb) ?_
      refine Ev.bind (impl_zeroRows.ev (compsM n l).length (by omega)) ?_
      have hcl := hS.1
      have hc4 : (iv.Sq (cr.runR l (iota 0 n.toNat) (List.replicate n.toNat (List.replicate n.toNat 0))).length (cr.runR l (iota 0 n.toNat) (List.replicate n.toNat (List.replicate n.toNat 0))) ∧ 1 ≤ (cr.runR l (iota 0 n.toNat) (List.replicate n.toNat (List.replicate n.toNat 0))).length ∧ (cr.runR l (iota 0 n.toNat) (List.replicate n.toNat (List.replicate n.toNat 0))).length ≤ 8) ∧ (1 ≤ (compsM n l).length ∧ (compsM n l).length ≤ 8) ∧ iv.Sq (compsM n l).length (List.replicate (compsM n l).length (List.replicate (compsM n l).length (0 : Int))) ∧ cl.okO (cr.runR l (iota 0 n.toNat) (List.replicate n.toNat (List.replicate n.toNat 0))).length (compsM n l) := by
        rw [hcl]
        exact ⟨⟨hS, by omega, by omega⟩, ⟨hc1, by omega⟩, crx.zero_Sq _, clx.okO_of (by omega) hO.2⟩
      simp only [if_pos hc4]
      rw [hs]
      exact Ev.now _
    · have := iv2.getD_lt
      obtain ⟨i, hi, rfl⟩ := List.getElem_of_mem hq
      have h := sq.2 i (by rw [← sq.1]; exact hi)
      rw [iv2.getD_lt _ _ hi] at h
      rw [h]; omega
  · refine ⟨[], 1, ?_, ?_, by simp, by simp⟩
    · simp only [spec_ComponentLinkings.f]
      refine Ev.bind (spec_l01Is.ev n l hf) ?_
      simp only [if_neg hb]
      exact Ev.now _
    · simp only [impl_ComponentLinkings.f]
      refine Ev.bind (impl_CrossingsOf.ev n l) ?_
      simp only [if_neg hb, show ¬ ((1 : Int) = 0) from by omega, if_false]
      exact Ev.now _


end Go.Proofs.Ytcbomfkimohlfaa.PureFnExactComponentLinkings
