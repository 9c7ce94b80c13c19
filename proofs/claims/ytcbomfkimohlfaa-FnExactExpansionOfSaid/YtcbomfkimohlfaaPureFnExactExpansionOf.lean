/- For every braid-shaped input and every number the program's ExpansionOf returns what the reference's returns, keeps its arguments and shares no memory; no conditions. -/
import Derived.Test.YtcbomfkimohlfaaMFnExactExpansionOfx
import Derived.Test.YtcbomfkimohlfaaLib
import Derived.Test.YtcbomfkimohlfaaLibCombM
import Derived.Test.YtcbomfkimohlfaaLibExp
import Derived.Test.YtcbomfkimohlfaaLibMat
import Derived.Test.YtcbomfkimohlfaaLibPure
import Derived.Test.YtcbomfkimohlfaaLibRows
import Derived.Test.YtcbomfkimohlfaaLibStrand
import Derived.Test.YtcbomfkimohlfaaLibTooth
set_option linter.unusedVariables false
set_option linter.unusedSimpArgs false
set_option maxRecDepth 10000
set_option maxHeartbeats 4000000
namespace Go.Proofs.Ytcbomfkimohlfaa.PureFnExactExpansionOf
open Go.RowKit Go.Proofs.Ytcbomfkimohlfaa.MFnExactExpansionOf Go.Proofs.YtcbomfkimohlfaaW.PrintWords Go.Proofs.Ytcbomfkimohlfaa.Lib

theorem rdL1_eq (xs : List (List Int)) (i : Int) : rd_L1 xs i = rdl xs i := by
  have h : rd_L1 xs i = xs.getD i.toNat [] := by unfold rd_L1; rfl
  rw [h, rdl]

/-! ### laws_szInt64S -/
theorem laws_szInt64S.eq (l : List Int) (x : Int) (h0 : 0 ≤ x) (h1 : x ≤ 1048576) (hl : l.length ≤ maxLen) : laws_szInt64S.f l x = some (if x - l.length < 0 then -1 else x - l.length) := by
  unfold maxLen at hl
  simp (disch := omega) only [laws_szInt64S.f, w64]
  split <;> rfl

/-! ### laws_szBraid -/
theorem laws_szBraid.eq (n : Int) (l : List Int) (x : Int) (h0 : 0 ≤ x) (h1 : x ≤ 1048576) (hl : l.length ≤ maxLen) : laws_szBraid.f n l x = some (if x - l.length < 0 then -1 else x - l.length) := by
  simp (disch := assumption) only [laws_szBraid.f, laws_szInt64S.eq, Option.bind_some]
  by_cases h : x - l.length < 0
  · simp [h]
  · simp [h]

/-! ### laws_toInt64S -/
theorem laws_toInt64S.ev0 (l : List Int) (hb : l.length ≤ 17592186044416) : ∀ (d i : Nat) (acc : List Int), i + d = l.length → acc.length = l.length →
    Ev (fun k => laws_toInt64S.l0 k l acc (i : Int)) (acc.take i ++ l.drop i) := by
  intro d
  induction d with
  | zero =>
    intro i acc hi ha
    refine Ev.succ ?_
    simp (disch := omega) only [laws_toInt64S.l0, if_neg]
    exact Ev.pure (by rw [List.take_of_length_le (by omega), List.drop_of_length_le (by omega), List.append_nil])
  | succ d ih =>
    intro i acc hi ha
    refine Ev.succ ?_
    simp (disch := omega) only [laws_toInt64S.l0, if_pos, w64]
    refine Ev.to (ih (i + 1) (acc.set i (rd l i)) (by omega) (by simpa using ha)) ?_
    rw [take_set_succ _ _ _ (by omega), drop_rd l i (by omega), List.append_assoc]; rfl
theorem laws_toInt64S.ev (l : List Int) (hb : l.length ≤ 17592186044416) : Ev (fun k => laws_toInt64S.f k l) l := by
  simp (disch := omega) only [laws_toInt64S.f, if_pos]
  refine Ev.to (laws_toInt64S.ev0 l hb l.length 0 (List.replicate l.length 0) (by omega) (by simp)) (by simp)

/-! ### laws_toBraid -/
theorem laws_toBraid.ev (n : Int) (l : List Int) (hb : l.length ≤ 17592186044416) : Ev (fun k => laws_toBraid.f k n l) (n, l) := by
  simp only [laws_toBraid.f]
  exact Ev.bind (laws_toInt64S.ev l hb) (Ev.now _)

/-! ### laws_eqInt64S -/
theorem laws_eqInt64S.ev0 (l m : List Int) (hb : l.length ≤ 4611686018427387904) (hlm : l.length = m.length) : ∀ (d i : Nat), i + d = l.length →
    Ev (fun k => laws_eqInt64S.l0 k l m (i : Int)) (decide (l.drop i = m.drop i)) := by
  intro d
  induction d with
  | zero =>
    intro i hi
    refine Ev.succ ?_
    simp (disch := omega) only [laws_eqInt64S.l0, if_neg]
    exact Ev.pure (by rw [List.drop_of_length_le (by omega), List.drop_of_length_le (by omega)]; simp)
  | succ d ih =>
    intro i hi
    refine Ev.succ ?_
    simp (disch := omega) only [laws_eqInt64S.l0, if_pos, w64]
    rw [drop_rd l i (by omega), drop_rd m i (by omega)]
    by_cases h : rd l i = rd m i
    · simp only [if_pos h]
      refine Ev.to (ih (i + 1) (by omega)) (by simp [h])
    · simp only [if_neg h]
      exact Ev.pure (by simp [h])
theorem laws_eqInt64S.ev (l m : List Int) (hb : l.length ≤ 4611686018427387904) : Ev (fun k => laws_eqInt64S.f k l m) (decide (l = m)) := by
  by_cases h : l.length = m.length
  · simp (disch := omega) only [laws_eqInt64S.f, if_pos]
    exact Ev.to (laws_eqInt64S.ev0 l m hb h l.length 0 (by omega)) (by simp)
  · simp (disch := omega) only [laws_eqInt64S.f, if_neg]
    exact Ev.pure (by simp; intro e; exact h (by rw [e]))

/-! ### laws_eqBraid -/
theorem laws_eqBraid.ev (n m : Int) (l s : List Int) (hb : l.length ≤ 4611686018427387904) : Ev (fun k => laws_eqBraid.f k n l m s) (decide (n = m) && decide (l = s)) := by
  simp only [laws_eqBraid.f]
  by_cases h : n = m
  · simp only [if_pos h]
    refine Ev.bind (laws_eqInt64S.ev l s hb) ?_
    by_cases h' : l = s <;> simp [h, h'] <;> exact Ev.now _
  · simp only [if_neg h]
    exact Ev.pure (by simp [h])

/-! ### laws_markInt64S -/
theorem laws_markInt64S.ev0 (n : Nat) (hb : n ≤ 4611686018427387904) : ∀ (d i : Nat) (acc : List Int) (x : Int), i + d = n → acc.length = n → -4611686018427387904 ≤ x → x + d ≤ 4611686018427387904 →
    Ev (fun k => laws_markInt64S.l0 k acc x (i : Int)) (x + d, acc.take i ++ iota x d) := by
  intro d
  induction d with
  | zero =>
    intro i acc x hi ha h0 h1
    refine Ev.succ ?_
    simp (disch := omega) only [laws_markInt64S.l0, if_neg]
    exact Ev.pure (by rw [List.take_of_length_le (by omega)]; simp [iota])
  | succ d ih =>
    intro i acc x hi ha h0 h1
    refine Ev.succ ?_
    simp (disch := omega) only [laws_markInt64S.l0, if_pos, w64]
    refine Ev.to (ih (i + 1) (acc.set i x) (x + 1) (by omega) (by simpa using ha) (by omega) (by omega)) ?_
    rw [take_set_succ _ _ _ (by omega), List.append_assoc]
    exact Prod.ext (by simp; omega) rfl
theorem laws_markInt64S.ev (l : List Int) (x : Int) (h0 : 0 ≤ x) (h1 : x + l.length ≤ 4611686018427387904) : Ev (fun k => laws_markInt64S.f k l x) (x + l.length, iota x l.length) := by
  simp only [laws_markInt64S.f]
  exact Ev.to (laws_markInt64S.ev0 l.length (by omega) l.length 0 l x (by omega) rfl (by omega) h1) (by simp)

/-! ### laws_markBraid -/
theorem laws_markBraid.ev (n : Int) (l : List Int) (x : Int) (h0 : 0 ≤ x) (h1 : x + l.length ≤ 4611686018427387904) : Ev (fun k => laws_markBraid.f k n l x) (x + l.length, iota x l.length) := by
  simp only [laws_markBraid.f]
  exact Ev.bind (laws_markInt64S.ev l x h0 h1) (Ev.now _)

/-! ### laws_eqInt64SS -/
theorem laws_eqInt64SS.ev0 (l : List (List Int)) (hb : l.length ≤ 4611686018427387904) (hr : ∀ q ∈ l, q.length ≤ 4611686018427387904) : ∀ (d i : Nat), i + d = l.length →
    Ev (fun k => laws_eqInt64SS.l0 k l l (i : Int)) true := by
  intro d
  induction d with
  | zero =>
    intro i hi
    refine Ev.succ ?_
    simp (disch := omega) only [laws_eqInt64SS.l0, if_neg]
    exact Ev.now _
  | succ d ih =>
    intro i hi
    refine Ev.succ ?_
    simp (disch := omega) only [laws_eqInt64SS.l0, if_pos, w64, rdL1_eq]
    refine Ev.bind (laws_eqInt64S.ev _ _ (hr _ (rdl_mem l i (by omega)))) ?_
    simp only [decide_true, if_true]
    exact ih (i + 1) (by omega)
theorem laws_eqInt64SS.refl (l : List (List Int)) (hb : l.length ≤ 4611686018427387904) (hr : ∀ q ∈ l, q.length ≤ 4611686018427387904) : Ev (fun k => laws_eqInt64SS.f k l l) true := by
  simp only [laws_eqInt64SS.f, if_true]
  exact laws_eqInt64SS.ev0 l hb hr l.length 0 (by omega)

/-! ### laws_heldInt64S -/
theorem laws_heldInt64S.ev0 (x0 : Int) (n : Nat) (h0 : -4611686018427387904 ≤ x0) (hb : x0 + n ≤ 4611686018427387904) (hn : n ≤ 4611686018427387904) : ∀ (d i : Nat), i + d = n →
    Ev (fun k => laws_heldInt64S.l0 k (iota x0 n) (x0 + i) (i : Int)) (x0 + n) := by
  intro d
  have hl := iota_length x0 n
  induction d with
  | zero =>
    intro i hi
    refine Ev.succ ?_
    simp (disch := omega) only [laws_heldInt64S.l0, if_neg]
    exact Ev.pure (by omega)
  | succ d ih =>
    intro i hi
    refine Ev.succ ?_
    have e := rd_iota n i x0 (by omega)
    simp (disch := omega) only [laws_heldInt64S.l0, if_pos, w64]
    refine Ev.to (Ev.congr (fun k => ?_) (ih (i + 1) (by omega))) rfl
    congr 1
    omega
theorem laws_heldInt64S.ev (x : Int) (n : Nat) (h0 : -4611686018427387904 ≤ x) (h1 : x + n ≤ 4611686018427387904) (hn : n ≤ 4611686018427387904) : Ev (fun k => laws_heldInt64S.f k (iota x n) x) (x + n) := by
  simp only [laws_heldInt64S.f]
  refine Ev.congr (fun k => ?_) (laws_heldInt64S.ev0 x n h0 h1 hn n 0 (by omega))
  simp

/-! ### laws_heldInt64SS -/
-- use LibRows
theorem laws_heldInt64SS.ev0 (x0 : Int) (l : List (List Int)) (hl : l.length ≤ 1048576) : ∀ (d i : Nat) (x : Int), i + d = l.length → 0 ≤ x → x + total (l.drop i) ≤ 4611686018427387904 → (iotaSS x0 l).drop i = iotaSS x (l.drop i) →
    Ev (fun t => laws_heldInt64SS.l0 t (iotaSS x0 l) x (i : Int)) (x + total (l.drop i)) := by
  have hll := iotaSS_length x0 l
  intro d
  induction d with
  | zero =>
    intro i x hi h0 h1 he
    refine Ev.succ ?_
    have c1 : ¬ (i : Int) < ((iotaSS x0 l).length : Int) := by omega
    simp only [laws_heldInt64SS.l0, if_neg c1]
    exact Ev.pure (by rw [List.drop_of_length_le (by omega)]; simp [total])
  | succ d ih =>
    intro i x hi h0 h1 he
    refine Ev.succ ?_
    have c1 : (i : Int) < ((iotaSS x0 l).length : Int) := by omega
    have c2 : 0 ≤ (i : Int) := by omega
    rw [drop_rdl l i (by omega)] at h1 he ⊢
    rw [drop_rdl (iotaSS x0 l) i (by omega)] at he
    simp only [total, iotaSS, List.cons.injEq] at h1 he ⊢
    have w1 := Aside0.mk (w64 (x := (i : Int) + 1) (by omega) (by omega))
    simp only [laws_heldInt64SS.l0, if_pos c1, if_pos c2, rdL1_eq, he.1]
    refine Ev.bind (laws_heldInt64S.ev x _ (by omega) (by omega) (by omega)) ?_
    have c3 : ¬ (x + ((rdl l (i : Int)).length : Int) < 0) := by omega
    simp only [if_neg c3, w1.out]
    exact Ev.to (ih (i + 1) _ (by omega) (by omega) (by omega) he.2) (by omega)
theorem laws_heldInt64SS.ev (x : Int) (l : List (List Int)) (hl : l.length ≤ 1048576) (h0 : 0 ≤ x) (h1 : x + total l ≤ 4611686018427387904) : Ev (fun t => laws_heldInt64SS.f t (iotaSS x l) x) (x + total l) := by
  simp only [laws_heldInt64SS.f]
  exact Ev.to (laws_heldInt64SS.ev0 x l hl l.length 0 x (by omega) h0 (by simpa using h1) (by simp)) (by simp)

/-! ### spec_l01In -/
theorem spec_l01In.eq (a lo hi : Int) : spec_l01In.f a lo hi = some (inB a lo hi) := by
  unfold spec_l01In.f inB
  by_cases h : lo ≤ a <;> simp [h]

/-! ### spec_l01Is -/
theorem spec_l01Is.letter (n x : Int) (h1 : 1 ≤ n) (h8 : n ≤ 8) (hx : -9223372036854775808 ≤ x ∧ x ≤ 9223372036854775807) : (inB x 1 (n - 1) || inB (wrap64 (-x)) 1 (n - 1)) = letterB n x := by
  unfold inB letterB inB wrap64
  rw [Bool.eq_iff_iff]; simp; omega
theorem spec_l01Is.ev0 (n : Int) (l : List Int) (h1 : 1 ≤ n) (h8 : n ≤ 8) (hb : l.length ≤ 200) (hf : Fits l) : ∀ (d i : Nat), i + d = l.length →
    Ev (fun k => spec_l01Is.l0 k (i : Int) n l) ((l.drop i).all (letterB n)) := by
  intro d
  induction d with
  | zero =>
    intro i hi
    refine Ev.succ ?_
    simp (disch := omega) only [spec_l01Is.l0, if_neg]
    exact Ev.pure (by rw [List.drop_of_length_le (by omega)]; rfl)
  | succ d ih =>
    intro i hi
    refine Ev.succ ?_
    have hx := hf (rd l i) (rd_mem l i (by omega))
    have hl := spec_l01Is.letter n (rd l i) h1 h8 hx
    have hw : wrap64 (n - 1) = n - 1 := w64 (by omega) (by omega)
    have hw2 : wrap64 ((i : Int) + 1) = ((i + 1 : Nat) : Int) := w64 (by omega) (by omega)
    simp (disch := omega) only [spec_l01Is.l0, if_pos, hw, hw2, spec_l01In.eq, Option.bind_some]
    rw [drop_rd l i (by omega), List.all_cons, ← hl]
    cases h : inB (rd l i) 1 (n - 1) with
    | true => simp only [if_true, Bool.true_or, Bool.true_and]; exact ih (i + 1) (by omega)
    | false =>
      cases h' : inB (wrap64 (-(rd l i))) 1 (n - 1) with
      | true => simp only [if_true, Bool.false_or, Bool.true_and, Bool.false_eq_true, if_false]; exact ih (i + 1) (by omega)
      | false => exact Ev.pure (by simp)
theorem spec_l01Is.ev (n : Int) (l : List Int) (hf : Fits l) : Ev (fun k => spec_l01Is.f k n l) (isBraidB n l) := by
  simp only [spec_l01Is.f, spec_l01In.eq, Option.bind_some]
  unfold isBraidB
  cases hn : inB n 1 8 with
  | false =>
    refine Ev.succ ?_
    simp [spec_l01Is.j0]
    exact Ev.now _
  | true =>
    obtain ⟨h1, h8⟩ := inB_iff.1 hn
    refine Ev.succ ?_
    simp only [if_true, spec_l01Is.j0, Bool.true_and]
    by_cases hl : l.length ≤ 200
    · have : ¬ ((l.length : Int) > 200) := by omega
      simp only [this, decide_false, Bool.false_eq_true, if_false, hl, decide_true, Bool.true_and]
      exact Ev.to (spec_l01Is.ev0 n l h1 h8 hl hf l.length 0 (by omega)) (by simp)
    · have : ((l.length : Int) > 200) := by omega
      simp only [this, decide_true, if_true, hl, decide_false, Bool.false_and]
      exact Ev.now _

/-! ### spec_l01Perm -/
-- use LibPure
theorem spec_l10Pure.fill (n : Int) (hn : 0 ≤ n ∧ n ≤ 8) : fillL n.toNat = iota 0 n.toNat ++ List.replicate (8 - n.toNat) 0 := by
  have h : ∀ m : Fin 9, fillL m.val = iota 0 m.val ++ List.replicate (8 - m.val) 0 := by decide
  exact h ⟨n.toNat, by omega⟩
theorem spec_l10Pure.sw1 {n : Nat} {xs z : List Int} (h : xs.length = n) {x : Int} (hn : n ≤ 8) (hx : 1 ≤ absI x ∧ absI x < (n : Int)) : sw (xs ++ z) x = swI xs x ++ z := by
  have hb := absI_eq x
  have h8 : -8 ≤ x ∧ x ≤ 8 := by split at hb <;> omega
  have W : wrap64 (-x) = -x := w64 (by omega) (by omega)
  have ha : mx x (-x) = absI x := rfl
  have w1 : wrap64 (absI x - 1) = absI x - 1 := w64 (by omega) (by omega)
  simp only [sw, W, ha, w1, swI]
  rw [rd_app xs z (by omega) (by omega), rd_app xs z (x := absI x) (by omega) (by omega), List.set_append_left _ _ (by omega), List.set_append_left _ _ (by simp; omega), List.set_comm _ _ (by omega)]
theorem spec_l10Pure.fold {n : Nat} (hn : n ≤ 8) (z : List Int) {l : List Int} (hl : ∀ x ∈ l, 1 ≤ absI x ∧ absI x < (n : Int)) : ∀ {xs : List Int}, xs.length = n → l.foldl sw (xs ++ z) = l.foldl swI xs ++ z := by
  induction l with
  | nil => intro xs h; rfl
  | cons x l ih =>
    intro xs h
    rw [List.foldl_cons, List.foldl_cons, spec_l10Pure.sw1 h hn (hl x (by simp))]
    exact ih (fun y hy => hl y (by simp [hy])) (by simp [swI, h])
theorem spec_l10Pure.perm {n : Nat} (hn : n ≤ 8) {s : List Int} (hs : InN n s) (z : List Int) : ∀ k, k ≤ n → permGo (s ++ z) k = endsGo s n k ++ List.replicate (8 - n) 0
  | 0, _ => by
    rw [permGo, endsGo, a8, List.replicate_append_replicate]
    congr 1; omega
  | k + 1, h => by
    have hr := rd_in hs (x := (k : Int)) (by omega) (by omega)
    have hl := endsGo_length s n k
    rw [permGo, endsGo, spec_l10Pure.perm hn hs z k (by omega), rd_app s z (by omega) (by rw [hs.1]; omega), List.set_append_left _ _ (by omega)]
theorem spec_l10Pure.permEq (n : Int) (hn : 0 ≤ n ∧ n ≤ 8) {l : List Int} (hl : ∀ x ∈ l, 1 ≤ absI x ∧ absI x < (n.toNat : Int)) : permL n l = endsGo (atL n.toNat l) n.toNat n.toNat ++ List.replicate (8 - n.toNat) 0 := by
  rw [permL, spec_l10Pure.fill n hn, spec_l10Pure.fold (by omega) _ hl (iota_length 0 _)]
  exact spec_l10Pure.perm (by omega) (atL_in hl) _ _ (Nat.le_refl _)
theorem spec_l10Pure.base (n : Int) (hn : 0 ≤ n ∧ n ≤ 8) : endsGo (atL n.toNat []) n.toNat n.toNat = iota 0 n.toNat := by
  have h : ∀ m : Fin 9, endsGo (atL m.val []) m.val m.val = iota 0 m.val := by decide
  exact h ⟨n.toNat, by omega⟩

/-! ### spec_l10Pure -/
-- use LibPure
theorem spec_l10Pure.ev (n : Int) (l : List Int) (hf : Fits l) : Ev (fun k => spec_l10Pure.f k n l) (pureM n l) := by
  simp only [spec_l10Pure.f]
  refine Ev.bind (spec_l01Is.ev n l hf) ?_
  unfold pureM
  by_cases h : isBraidB n l = true
  · obtain ⟨hn, _, hx⟩ := isBraidB_iff.1 h
    have hs := braid_sizes h
    have hg : spec_l10Pure.good n l = true := by
      simp only [spec_l10Pure.good, Bool.and_eq_true, decide_eq_true_eq, List.all_eq_true]
      refine ⟨by omega, fun x hx' => ?_⟩
      have h1 := hx x hx'
      have h2 := hs x hx'
      have W : wrap64 (-x) = -x := w64 (by omega) (by omega)
      have ha : mx x (-x) = absI x := rfl
      rw [W, ha]; omega
    have e : (permL n l = permL n []) ↔ pureB n l = true := by
      rw [spec_l10Pure.permEq n (by omega) hs, spec_l10Pure.permEq n (by omega) (by simp), spec_l10Pure.base n (by omega), pureB, decide_eq_true_eq]
      exact ⟨fun h => List.append_cancel_right h, fun h => by rw [h]⟩
    simp only [if_pos h, if_pos hg]
    by_cases hp : pureB n l = true
    · simp only [if_pos hp, if_pos (e.2 hp)]; exact Ev.now _
    · simp only [if_neg hp, if_neg (fun x => hp (e.1 x))]; exact Ev.now _
  · simp only [if_neg h]
    exact Ev.now _

/-! ### spec_l01Free -/
theorem spec_l01Free.ev0 (l : List Int) (hs : Small l) (hb : l.length ≤ 1099511627776) : ∀ (d i : Nat) (acc : List Int), i + d = l.length → acc.length + d ≤ 4398046511104 →
    Ev (fun k => spec_l01Free.l0 k l acc (i : Int)) (pushAll acc (l.drop i)) := by
  intro d
  induction d with
  | zero =>
    intro i acc hi ha
    refine Ev.succ ?_
    have c1 : ¬ (i : Int) < (l.length : Int) := by omega
    simp only [spec_l01Free.l0, if_neg c1]
    exact Ev.pure (by rw [List.drop_of_length_le (by omega)]; rfl)
  | succ d ih =>
    intro i acc hi ha
    refine Ev.succ ?_
    have hx := hs.rd i (by omega)
    have hw2 := Aside0.mk (show wrap64 ((i : Int) + 1) = ((i + 1 : Nat) : Int) from w64 (by omega) (by omega))
    have hwn := Aside0.mk (w64 (x := -(rd l (i : Int))) (by omega) (by omega))
    have ih' := fun acc h => ih (i + 1) acc (by omega) h
    have c1 : (i : Int) < (l.length : Int) := by omega
    have c2 : 0 ≤ (i : Int) := by omega
    have c4 : acc.length < 17592186044416 := by omega
    rw [drop_rd l i (by omega)]
    simp only [pushAll, List.foldl_cons, push1] at ih' ⊢
    by_cases h0 : acc.length = 0
    · have e : acc = [] := List.eq_nil_of_length_eq_zero h0
      subst e
      have c3 : ¬ ((([] : List Int).length : Nat) : Int) > 0 := by simp
      simp only [spec_l01Free.l0, if_pos c1, if_pos c2, if_neg c3, if_pos c4, hw2.out]
      exact ih' [rd l i] (by simp; omega)
    · have hwa := Aside0.mk (w64 (x := (acc.length : Int) - 1) (by omega) (by omega))
      have c3 : (acc.length : Int) > 0 := by omega
      have c5 : 0 ≤ (acc.length : Int) - 1 := by omega
      have c6 : (acc.length : Int) - 1 < (acc.length : Int) := by omega
      have c7 : (acc.length : Int) - 1 ≤ (acc.length : Int) := by omega
      simp only [spec_l01Free.l0, if_pos c1, if_pos c2, if_pos c3, if_pos c4, hw2.out, hwa.out, hwn.out, if_pos c5, if_pos c6, if_pos c7]
      rw [last_rd acc (by omega)]
      by_cases hq : rd acc ((acc.length : Int) - 1) = -rd l (i : Int)
      · simp only [if_pos hq, Option.some.injEq]
        rw [show (((acc.length : Int) - 1).toNat) = acc.length - 1 from by omega, take_last]
        exact ih' acc.dropLast (by simp; omega)
      · simp only [if_neg hq, Option.some.injEq]
        exact ih' (acc ++ [rd l i]) (by simp; omega)
theorem spec_l01Free.ev (l : List Int) (hs : Small l) (hb : l.length ≤ 1099511627776) : Ev (fun k => spec_l01Free.f k l) (pushAll [] l) := by
  simp only [spec_l01Free.f]
  exact Ev.to (spec_l01Free.ev0 l hs hb l.length 0 [] (by omega) (by simp; omega)) (by simp)

/-! ### spec_l01Inverse -/
theorem spec_l01Inverse.ev0 (l : List Int) (hs : Small l) (hb : l.length ≤ 1099511627776) : ∀ (d : Nat) (acc : List Int), d ≤ l.length → acc.length + d ≤ 1099511627776 →
    Ev (fun k => spec_l01Inverse.l0 k l acc ((d : Int) - 1)) (acc ++ back (l.take d)) := by
  intro d
  induction d with
  | zero =>
    intro acc hd ha
    refine Ev.succ ?_
    simp (disch := omega) only [spec_l01Inverse.l0, if_neg]
    exact Ev.pure (by simp [back])
  | succ d ih =>
    intro acc hd ha
    refine Ev.succ ?_
    have hx := hs.rd d (by omega)
    have e : ((d + 1 : Nat) : Int) - 1 = (d : Int) := by omega
    rw [e]
    simp (disch := omega) only [spec_l01Inverse.l0, if_pos, w64]
    refine Ev.to (ih (acc ++ [-rd l (d : Int)]) (by omega) (by simp; omega)) ?_
    rw [take_rd l d (by omega), back_snoc]
    simp
theorem spec_l01Inverse.ev (l : List Int) (hs : Small l) (hb : l.length ≤ 1099511627776) : Ev (fun k => spec_l01Inverse.f k l) (back l) := by
  have e : wrap64 ((l.length : Int) - 1) = (l.length : Int) - 1 := w64 (by omega) (by omega)
  simp only [spec_l01Inverse.f, e]
  exact Ev.to (spec_l01Inverse.ev0 l hs hb l.length [] (by omega) (by simpa using hb)) (by simp)

/-! ### spec_l10Led -/
-- use LibTooth
theorem spec_l10Led.ev0 (w : List Int) (hw : Gens w) (hwl : w.length ≤ 400) (y : Int) (hy : y ≠ 0 ∧ -7 ≤ y ∧ y ≤ 7) : ∀ (d i : Nat) (acc : List Int), i + d = w.length → Gens acc → acc.length ≤ 3 * i →
    Ev (fun k => spec_l10Led.l0 k w y acc (absI y) (i : Int)) (pushAll [] (acc ++ (w.drop i).flatMap (leadS y))) := by
  have hk1 := absI_pos hy.1
  have hk7 := absI_bd hy.2
  intro d
  induction d with
  | zero =>
    intro i acc hi hg ha
    refine Ev.succ ?_
    have c1 : ¬ (i : Int) < (w.length : Int) := by omega
    simp only [spec_l10Led.l0, if_neg c1]
    rw [List.drop_of_length_le (by omega), List.flatMap_nil, List.append_nil]
    exact Ev.bind (spec_l01Free.ev acc hg.small (by omega)) (Ev.now _)
  | succ d ih =>
    intro i acc hi hg ha
    have hx := hw _ (rd_mem w i (by omega))
    have ha1 := absI_pos hx.1
    have ha8 := absI_bd hx.2
    have W := Aside0.mk (w64 (x := -rd w (i : Int)) (by omega) (by omega))
    have w1 := Aside0.mk (show wrap64 ((i : Int) + 1) = ((i + 1 : Nat) : Int) from (w64 (x := (i : Int) + 1) (by omega) (by omega)).trans (by omega))
    have hgi := leadS_gens hy hx
    have hli := leadS_length y (rd w (i : Int))
    have hgw := leadW_gens hy (x := absI (rd w (i : Int))) ⟨by omega, by omega, by omega⟩
    have hlw := leadW_length y (absI (rd w (i : Int)))
    have c1 : (i : Int) < (w.length : Int) := by omega
    have c2 : 0 ≤ (i : Int) := by omega
    rw [drop_rd w i (by omega), List.flatMap_cons, ← List.append_assoc]
    have next := ih (i + 1) (acc ++ leadS y (rd w (i : Int))) (by omega) (fun z hz => by
      rcases List.mem_append.1 hz with h | h
      · exact hg z h
      · exact hgi z h) (by simp; omega)
    generalize pushAll [] (acc ++ leadS y (rd w (i : Int)) ++ (w.drop (i + 1)).flatMap (leadS y)) = R at next ⊢
    have ham : mx (rd w (i : Int)) (-rd w (i : Int)) = absI (rd w (i : Int)) := rfl
    have key : ∀ V, leadW y (absI (rd w (i : Int))) = V → Ev (fun k => if rd w (i : Int) < 0 then ((spec_l01Inverse.f k V).bind fun t => (if acc.length + t.length < 17592186044416 then (spec_l10Led.l0 k w y (acc ++ t) (absI y) ((i + 1 : Nat) : Int)) else (none))) else (if acc.length + V.length < 17592186044416 then (spec_l10Led.l0 k w y (acc ++ V) (absI y) ((i + 1 : Nat) : Int)) else (none))) R := by
      intro V hV
      rw [hV] at hgw hlw
      by_cases h : rd w (i : Int) < 0
      · have es : leadS y (rd w (i : Int)) = back V := by rw [leadS, if_pos h, hV]
        rw [es] at next
        have c3 : acc.length + (back V).length < 17592186044416 := by rw [back_length]; omega
        simp only [if_pos h]
        refine Ev.bind (spec_l01Inverse.ev V hgw.small (by omega)) ?_
        simp only [if_pos c3]
        exact next
      · have es : leadS y (rd w (i : Int)) = V := by rw [leadS, if_neg h, hV]
        rw [es] at next
        have c3 : acc.length + V.length < 17592186044416 := by omega
        simp only [if_neg h, if_pos c3]
        exact next
    have hnx : (i : Int) + 1 = ((i + 1 : Nat) : Int) := by omega
    have wp := Aside0.mk (w64 (x := absI y + 1) (by omega) (by omega))
    have wn := Aside0.mk (w64 (x := -absI y) (by omega) (by omega))
    have wn1 := Aside0.mk (w64 (x := -absI y - 1) (by omega) (by omega))
    have hone : ∀ a : Int, rd [a] 0 = a := fun a => rfl
    have hlen : ∀ a : Int, (0 : Int) < (([a] : List Int).length : Int) := fun a => by simp
    refine Ev.succ ?_
    simp only [spec_l10Led.l0, if_pos c1, if_pos c2, W.out, ham, Option.bind_some, if_pos (hlen _), hone]
    unfold leadW at key
    generalize absI (rd w (i : Int)) = a at *
    generalize hm : absI y = m at *
    by_cases h : y > 0
    · have h' : ¬ y < 0 := by omega
      simp only [if_pos h]
      refine Ev.succ ?_
      by_cases e1 : a = m
      · have b1 : (a == m) = true := by simp [e1]
        simp only [spec_l10Led.j1, b1, if_true, Option.bind_some, if_pos c1, if_pos c2, wp.out, w1.out]
        exact key _ (by rw [if_pos ⟨h, e1⟩])
      · have b1 : (a == m) = false := by simp [e1]
        simp only [spec_l10Led.j1, b1, Bool.false_eq_true, if_false, if_pos h, if_pos (hlen _), hone, wp.out]
        refine Ev.succ ?_
        by_cases e2 : a = m + 1
        · have b2 : (a == m + 1) = true := by simp [e2]
          simp only [spec_l10Led.j2, b2, if_true, Option.bind_some, if_pos c1, if_pos c2, wp.out, wn.out, wn1.out, w1.out]
          exact key _ (by rw [if_neg (by omega), if_pos ⟨h, e2⟩, show -(m + 1) = -m - 1 by omega])
        · have b2 : (a == m + 1) = false := by simp [e2]
          simp only [spec_l10Led.j2, b2, Bool.false_eq_true, if_false, if_neg h']
          refine Ev.succ ?_
          simp only [spec_l10Led.j3, Bool.false_eq_true, if_false, if_neg h']
          refine Ev.succ ?_
          simp only [spec_l10Led.j4, Bool.false_eq_true, if_false, if_pos c1, if_pos c2, w1.out]
          exact key _ (by rw [if_neg (by omega), if_neg (by omega), if_neg (by omega), if_neg (by omega)])
    · have h' : y < 0 := by omega
      simp only [if_neg h]
      refine Ev.succ ?_
      simp only [spec_l10Led.j1, Bool.false_eq_true, if_false, if_neg h]
      refine Ev.succ ?_
      simp only [spec_l10Led.j2, Bool.false_eq_true, if_false, if_pos h', if_pos (hlen _), hone, wp.out]
      refine Ev.succ ?_
      by_cases e2 : a = m + 1
      · have b2 : (a == m + 1) = true := by simp [e2]
        simp only [spec_l10Led.j3, b2, if_true, Option.bind_some, if_pos c1, if_pos c2, w1.out]
        exact key _ (by rw [if_neg (by omega), if_neg (by omega), if_pos ⟨h', e2⟩])
      · have b2 : (a == m + 1) = false := by simp [e2]
        simp only [spec_l10Led.j3, b2, Bool.false_eq_true, if_false, if_pos h', if_pos (hlen _), hone]
        refine Ev.succ ?_
        by_cases e1 : a = m
        · have b1 : (a == m) = true := by simp [e1]
          simp only [spec_l10Led.j4, b1, if_true, Option.bind_some, if_pos c1, if_pos c2, wp.out, wn.out, w1.out]
          exact key _ (by rw [if_neg (by omega), if_neg (by omega), if_neg (by omega), if_pos ⟨h', e1⟩])
        · have b1 : (a == m) = false := by simp [e1]
          simp only [spec_l10Led.j4, b1, Bool.false_eq_true, if_false, if_pos c1, if_pos c2, w1.out]
          exact key _ (by rw [if_neg (by omega), if_neg (by omega), if_neg (by omega), if_neg (by omega)])
theorem spec_l10Led.ev (w : List Int) (hw : Gens w) (hwl : w.length ≤ 400) (y : Int) (hy : y ≠ 0 ∧ -7 ≤ y ∧ y ≤ 7) : Ev (fun k => spec_l10Led.f k w y) (led1 y w) := by
  have W := Aside0.mk (w64 (x := -y) (by omega) (by omega))
  have ham : mx y (-y) = absI y := rfl
  simp only [spec_l10Led.f, W.out, ham]
  exact Ev.to (spec_l10Led.ev0 w hw hwl y hy w.length 0 [] (by omega) (by simp [Gens]) (by simp)) (by rw [led1_flat]; simp)

/-! ### spec_l10Strand -/
-- use LibTooth
def strandR : Option (List Int × List Int) → List Int × List Int × Bool
  | some r => (r.1, r.2, true)
  | none => ([], [], false)
theorem spec_l10Strand.ev1 (l f w : List Int) (p i : Int) (hwl : w.length ≤ 200) (hw : ∀ y ∈ w, y ≠ 0 ∧ -7 ≤ y ∧ y ≤ 7) (R : List Int × List Int × Bool) : ∀ (m : Nat) (own : List Int), m ≤ w.length → Gens own → own.length ≤ 400 → (ledTo w m own = none → R = ([], [], false)) →
    (∀ r z, ledTo w m own = some r → Ev (fun k => spec_l10Strand.j6 k l f w p i r z false) R) → Ev (fun k => spec_l10Strand.l1 k l f w p i own ((m : Int) - 1)) R := by
  intro m
  induction m with
  | zero =>
    intro own hm hg hol h1 h2
    refine Ev.succ ?_
    have c1 : ¬ (((0 : Nat) : Int) - 1 ≥ 0) := by omega
    simp only [spec_l10Strand.l1, if_neg c1]
    exact h2 own _ rfl
  | succ m ih =>
    intro own hm hg hol h1 h2
    refine Ev.succ ?_
    have e : ((m + 1 : Nat) : Int) - 1 = (m : Int) := by omega
    have c1 : (m : Int) ≥ 0 := by omega
    rw [e]
    simp only [spec_l10Strand.l1, if_pos c1]
    by_cases h0 : own.length = 0
    · have e0 : own = [] := List.eq_nil_of_length_eq_zero h0
      subst e0
      exact h2 [] _ (ledTo_nil w (m + 1))
    · have b : decide ((own.length : Int) > 0) = true := decide_eq_true (by omega)
      rw [b]
      refine Ev.succ ?_
      have c2 : 0 ≤ (m : Int) := by omega
      have c3 : (m : Int) < (w.length : Int) := by omega
      have hy := hw _ (rd_mem w m (by omega))
      have w1 := Aside0.mk (w64 (x := (m : Int) - 1) (by omega) (by omega))
      simp only [spec_l10Strand.j6, if_true, if_pos c2, if_pos c3, w1.out]
      refine Ev.bind (spec_l10Led.ev own hg hol _ hy) ?_
      simp only [ledTo] at h1 h2
      by_cases c4 : ((led1 (rd w (m : Int)) own).length : Int) > 400
      · simp only [if_pos c4] at h1 ⊢
        exact Ev.pure (h1 trivial).symm
      · simp only [if_neg c4] at h1 h2 ⊢
        exact ih _ (by omega) (led1_gens hy hg) (by omega) h1 h2
theorem spec_l10Strand.ev0 (l : List Int) (hb : l.length ≤ 200) (hl : ∀ y ∈ l, y ≠ 0 ∧ -7 ≤ y ∧ y ≤ 7) : ∀ (d i : Nat) (f w : List Int) (p : Int), i + d = l.length → (∀ y ∈ w, y ≠ 0 ∧ -7 ≤ y ∧ y ≤ 7) → w.length ≤ i → 0 ≤ p → p ≤ 7 → f.length ≤ 400 → Gens f → RedF f →
    Ev (fun k => spec_l10Strand.l0 k l f w p (i : Int)) (strandR (toothGo (l.drop i) f w p)) := by
  intro d
  induction d with
  | zero =>
    intro i f w p hi hw hwl h0 h7 hf hgf hrf
    refine Ev.succ ?_
    have c1 : ¬ (i : Int) < (l.length : Int) := by omega
    simp only [spec_l10Strand.l0, if_neg c1]
    exact Ev.pure (by rw [List.drop_of_length_le (by omega)]; rfl)
  | succ d ih =>
    intro i f w p hi hw hwl h0 h7 hf hgf hrf
    refine Ev.succ ?_
    have hx := hl _ (rd_mem l i (by omega))
    have hk1 := absI_pos hx.1
    have hk7 := absI_bd hx.2
    have hw' := stepW_ok hx h0 hw
    have hp' := stepP_ok hx h0 h7
    have ha' := stepA_ok hx h0 h7
    have hle := stepW_length (rd l (i : Int)) w p
    have W := Aside0.mk (w64 (x := -rd l (i : Int)) (by omega) (by omega))
    have ham : mx (rd l (i : Int)) (-rd l (i : Int)) = absI (rd l (i : Int)) := rfl
    have w1 := Aside0.mk (w64 (x := (i : Int) + 1) (by omega) (by omega))
    have w2 := Aside0.mk (w64 (x := p + 1) (by omega) (by omega))
    have w3 := Aside0.mk (w64 (x := p - 1) (by omega) (by omega))
    have w4 := Aside0.mk (w64 (x := -p) (by omega) (by omega))
    have w6 := Aside0.mk (w64 (x := absI (rd l (i : Int)) - 1) (by omega) (by omega))
    have hsg := sgn_cases (rd l (i : Int))
    have hsa := sgn_abs1 hx.1
    have w5 := Aside0.mk (show wrap64 (sgnI (rd l (i : Int)) * (absI (rd l (i : Int)) - 1)) = rd l (i : Int) - sgnI (rd l (i : Int)) from (w64 (by omega) (by omega)).trans hsa)
    have c1 : (i : Int) < (l.length : Int) := by omega
    have c2 : 0 ≤ (i : Int) := by omega
    have c3 : w.length < 17592186044416 := by omega
    have c5 : ([] : List Int).length < 17592186044416 := by simp
    rw [drop_rd l i (by omega), toothGo]
    -- behind the step: j3 on
    have step : ∀ own, own = (if stepA (rd l (i : Int)) p = 0 then [] else [stepA (rd l (i : Int)) p]) → Ev (fun k => spec_l10Strand.j3 k l f (stepW (rd l (i : Int)) w p) p (i : Int) (absI (rd l (i : Int))) own)
        (strandR (if stepA (rd l (i : Int)) p = 0 then toothGo (l.drop (i + 1)) f (stepW (rd l (i : Int)) w p) (stepP (rd l (i : Int)) p)
          else match ledTo (stepW (rd l (i : Int)) w p) (stepW (rd l (i : Int)) w p).length [stepA (rd l (i : Int)) p] with
            | none => none
            | some own => if ((pushAll f own).length : Int) > 400 then none else toothGo (l.drop (i + 1)) (pushAll f own) (stepW (rd l (i : Int)) w p) (stepP (rd l (i : Int)) p))) := by
      intro own hown
      have hj4 : ∀ R, Ev (fun k => spec_l10Strand.j4 k l f (stepW (rd l (i : Int)) w p) (stepP (rd l (i : Int)) p) (i : Int) own) R → Ev (fun k => spec_l10Strand.j3 k l f (stepW (rd l (i : Int)) w p) p (i : Int) (absI (rd l (i : Int))) own) R := by
        intro R hR
        refine Ev.succ ?_
        unfold stepP at hR
        by_cases k3 : absI (rd l (i : Int)) = p
        · simp only [if_pos k3] at hR
          simp only [spec_l10Strand.j3, if_pos k3, w3.out]
          exact hR
        · simp only [if_neg k3] at hR
          by_cases k4 : absI (rd l (i : Int)) = p + 1
          · simp only [if_pos k4] at hR
            simp only [spec_l10Strand.j3, if_neg k3, w2.out, if_pos k4]
            exact hR
          · simp only [if_neg k4] at hR
            simp only [spec_l10Strand.j3, if_neg k3, w2.out, if_neg k4]
            exact hR
      refine hj4 _ (Ev.succ ?_)
      generalize stepW (rd l (i : Int)) w p = w' at *
      generalize stepP (rd l (i : Int)) p = p' at *
      generalize stepA (rd l (i : Int)) p = a at *
      have w7 := Aside0.mk (w64 (x := (w'.length : Int) - 1) (by omega) (by omega))
      simp only [spec_l10Strand.j4, w7.out]
      have fin : ∀ (r : List Int) (z : Int) (R : List Int × List Int × Bool), Gens r → r.length ≤ 400 → (((pushAll f r).length : Int) > 400 → R = ([], [], false)) → (¬ ((pushAll f r).length : Int) > 400 → Ev (fun k => spec_l10Strand.l0 k l (pushAll f r) w' p' ((i + 1 : Nat) : Int)) R) → Ev (fun k => spec_l10Strand.j6 k l f w' p' (i : Int) r z false) R := by
        intro r z R hgr hrl hr1 hr2
        refine Ev.succ ?_
        have c6 : f.length + r.length < 17592186044416 := by omega
        have e1 : pushAll [] (f ++ r) = pushAll f r := by rw [pushAll_append, hrf]
        simp only [spec_l10Strand.j6, Bool.false_eq_true, if_false, if_pos c6, w1.out]
        refine Ev.bind (Ev.to (spec_l01Free.ev (f ++ r) (fun z hz => by
          rcases List.mem_append.1 hz with h | h
          · exact hgf.small z h
          · exact hgr.small z h) (by simp; omega)) e1) ?_
        by_cases c7 : ((pushAll f r).length : Int) > 400
        · simp only [if_pos c7]
          exact Ev.pure (hr1 c7).symm
        · simp only [if_neg c7]
          exact hr2 c7
      have hnext : ∀ r, Gens r → ¬ ((pushAll f r).length : Int) > 400 → Ev (fun k => spec_l10Strand.l0 k l (pushAll f r) w' p' ((i + 1 : Nat) : Int)) (strandR (toothGo (l.drop (i + 1)) (pushAll f r) w' p')) := fun r hgr hc =>
        ih (i + 1) (pushAll f r) w' p' (by omega) hw' (by omega) hp'.1 hp'.2 (by omega) (fun z hz => by
          rcases pushAll_mem hz with h | h
          · exact hgf z h
          · exact hgr z h) (hrf.pushAll r)
      by_cases ca : a = 0
      · rw [if_pos ca] at hown
        subst hown
        simp only [if_pos ca]
        have hn := hnext [] (by simp [Gens]) (by show ¬ (f.length : Int) > 400; omega)
        refine spec_l10Strand.ev1 l f w' p' (i : Int) (by omega) hw' _ w'.length [] (Nat.le_refl _) (by simp [Gens]) (by simp) (fun h => by rw [ledTo_nil] at h; cases h) (fun r z hr => ?_)
        rw [ledTo_nil] at hr
        obtain rfl := Option.some.inj hr
        exact fin [] z _ (by simp [Gens]) (by simp) (fun h => absurd h (by show ¬ (f.length : Int) > 400; omega)) (fun _ => hn)
      · rw [if_neg ca] at hown
        subst hown
        simp only [if_neg ca]
        have hga : Gens [a] := fun z hz => by rw [List.mem_singleton.1 hz]; exact ⟨ca, ha'.1, ha'.2⟩
        refine spec_l10Strand.ev1 l f w' p' (i : Int) (by omega) hw' _ w'.length [a] (Nat.le_refl _) hga (by simp) (fun h => by rw [h]; rfl) (fun r z hr => ?_)
        have ho := ledTo_ok hw' _ (Nat.le_refl _) hga (by simp) hr
        rw [hr]
        refine fin r z _ ho.1 ho.2 (fun h => by simp only [if_pos h]; rfl) (fun h => ?_)
        simp only [if_neg h]
        exact hnext r ho.1 h
    have hlt := sgn_lt hx.1
    have first : ∀ R, Ev (fun k => spec_l10Strand.j1 k l f w p (i : Int) (rd l (i : Int)) (absI (rd l (i : Int))) (sgnI (rd l (i : Int)))) R → Ev (fun k => spec_l10Strand.l0 (k + 1) l f w p (i : Int)) R := by
      intro R hR
      rw [hlt] at hR
      by_cases h : rd l (i : Int) < 0
      · simp only [if_pos h] at hR
        simp only [spec_l10Strand.l0, if_pos c1, if_pos c2, W.out, ham, if_pos h]
        exact hR
      · simp only [if_neg h] at hR
        simp only [spec_l10Strand.l0, if_pos c1, if_pos c2, W.out, ham, if_neg h]
        exact hR
    refine first _ (Ev.succ ?_)
    simp only [spec_l10Strand.j1, Option.bind_some, w3.out, w2.out, w6.out, w5.out, if_pos c3]
    generalize strandR _ = R at step ⊢
    by_cases k1 : absI (rd l (i : Int)) < p
    · have e1 : stepW (rd l (i : Int)) w p = w ++ [rd l (i : Int)] := by rw [stepW, if_pos k1]
      have e3 : stepA (rd l (i : Int)) p = 0 := by rw [stepA, if_neg (by omega), if_neg (by omega)]
      have s := step [] (by rw [if_pos e3])
      rw [e1] at s
      have k1' : absI (rd l (i : Int)) ≤ p - 1 := by omega
      simp only [if_pos k1']
      exact s
    · have k1' : ¬ absI (rd l (i : Int)) ≤ p - 1 := by omega
      by_cases k2 : absI (rd l (i : Int)) > p + 1
      · have e1 : stepW (rd l (i : Int)) w p = w ++ [rd l (i : Int) - sgnI (rd l (i : Int))] := by rw [stepW, if_neg k1, if_pos k2]
        have e3 : stepA (rd l (i : Int)) p = 0 := by rw [stepA, if_neg (by omega), if_neg (by omega)]
        have s := step [] (by rw [if_pos e3])
        rw [e1] at s
        simp only [if_neg k1', if_pos k2]
        exact s
      · have e1 : stepW (rd l (i : Int)) w p = w := by rw [stepW, if_neg k1, if_neg k2]
        rw [e1] at step
        by_cases k3 : absI (rd l (i : Int)) = p
        · by_cases k4 : rd l (i : Int) < 0
          · have e3 : stepA (rd l (i : Int)) p = -p := by rw [stepA, if_pos ⟨k3, k4⟩]
            have s := step [-p] (by rw [e3, if_neg (by omega)])
            have b : decide (rd l (i : Int) < 0) = true := decide_eq_true k4
            simp only [if_neg k1', if_neg k2, if_pos k3, b]
            refine Ev.succ ?_
            simp only [spec_l10Strand.j2, if_true, if_pos c5, w4.out, List.nil_append]
            exact s
          · have e3 : stepA (rd l (i : Int)) p = 0 := by rw [stepA, if_neg (by omega), if_neg (by omega)]
            have s := step [] (by rw [if_pos e3])
            have b : decide (rd l (i : Int) < 0) = false := decide_eq_false k4
            have k5 : ¬ absI (rd l (i : Int)) = p + 1 := by omega
            simp only [if_neg k1', if_neg k2, if_pos k3, b]
            refine Ev.succ ?_
            simp only [spec_l10Strand.j2, Bool.false_eq_true, if_false, w2.out, if_neg k5]
            exact s
        · have k5 : absI (rd l (i : Int)) = p + 1 := by omega
          simp only [if_neg k1', if_neg k2, if_neg k3]
          refine Ev.succ ?_
          by_cases k4 : rd l (i : Int) > 0
          · have e3 : stepA (rd l (i : Int)) p = p + 1 := by rw [stepA, if_neg (by omega), if_pos ⟨by omega, k4⟩]
            have s := step [p + 1] (by rw [e3, if_neg (by omega)])
            simp only [spec_l10Strand.j2, Bool.false_eq_true, if_false, w2.out, if_pos k5, if_pos k4, if_pos c5, List.nil_append]
            exact s
          · have e3 : stepA (rd l (i : Int)) p = 0 := by rw [stepA, if_neg (by omega), if_neg (by omega)]
            have s := step [] (by rw [if_pos e3])
            simp only [spec_l10Strand.j2, Bool.false_eq_true, if_false, w2.out, if_pos k5, if_neg k4]
            exact s
theorem spec_l10Strand.ev (l : List Int) (j : Int) (hb : l.length ≤ 200) (hl : ∀ y ∈ l, y ≠ 0 ∧ -7 ≤ y ∧ y ≤ 7) (h0 : 0 ≤ j) (h7 : j ≤ 7) : Ev (fun k => spec_l10Strand.f k j l) (strandR (toothGo l [] [] j)) := by
  simp only [spec_l10Strand.f]
  exact Ev.to (spec_l10Strand.ev0 l hb hl l.length 0 [] [] j (by omega) (by simp) (by simp) h0 h7 (by simp) (by simp [Gens]) rfl) (by simp)

/-! ### spec_l10Comb -/
-- use LibTooth
def combB' : Option (List (List Int)) → List (List Int) × Bool
  | some r => (r, true)
  | none => ([], false)
theorem spec_l10Comb.ev0 : ∀ (j : Nat) (l : List Int) (acc : List (List Int)), j ≤ 7 → l.length ≤ 200 → (∀ y ∈ l, y ≠ 0 ∧ -7 ≤ y ∧ y ≤ 7) → acc.length + j ≤ 7 →
    Ev (fun k => spec_l10Comb.l0 k l acc (j : Int)) (combB' (combGo' j l acc)) := by
  intro j
  induction j with
  | zero =>
    intro l acc hj hb hl ha
    refine Ev.succ ?_
    have c1 : ¬ ((0 : Nat) : Int) > 0 := by omega
    simp only [spec_l10Comb.l0, if_neg c1]
    exact Ev.now _
  | succ j ih =>
    intro l acc hj hb hl ha
    refine Ev.succ ?_
    have c1 : ((j + 1 : Nat) : Int) > 0 := by omega
    have c2 : acc.length < 5864062014805 := by omega
    have w1 := Aside0.mk (show wrap64 (((j + 1 : Nat) : Int) - 1) = (j : Int) from (w64 (by omega) (by omega)).trans (by omega))
    simp only [spec_l10Comb.l0, if_pos c1, combGo', w1.out]
    refine Ev.bind (spec_l10Strand.ev l ((j + 1 : Nat) : Int) hb hl (by omega) (by omega)) ?_
    cases e : toothGo l [] [] ((j + 1 : Nat) : Int) with
    | none => exact Ev.now _
    | some r =>
      have h1 := toothGo_ok l (r := r.1) (s := r.2) hl (by simp) (by omega) (by omega) (by simp) e
      have h3 := h1.2.2
      simp only [List.length_nil] at h3
      simp only [strandR, if_true, if_pos c2]
      exact ih r.2 (acc ++ [r.1]) (by omega) (by omega) h1.2.1 (by simp; omega)
theorem spec_l10Comb.ev (n : Int) (l : List Int) (hn : 1 ≤ n ∧ n ≤ 8) (hb : l.length ≤ 200) (hl : ∀ y ∈ l, y ≠ 0 ∧ -7 ≤ y ∧ y ≤ 7) : Ev (fun k => spec_l10Comb.f k n l) (combB' (combGo' (n - 1).toNat l [])) := by
  have w1 : wrap64 (n - 1) = (((n - 1).toNat : Nat) : Int) := (w64 (by omega) (by omega)).trans (by omega)
  simp only [spec_l10Comb.f, w1]
  exact spec_l10Comb.ev0 _ l [] (by omega) hb hl (by simp; omega)

/-! ### spec_CombOf -/
-- use LibCombM
theorem spec_CombOf.ev (n : Int) (l : List Int) (hf : Fits l) : Ev (fun k => spec_CombOf.f k n l) (combM n l) := by
  simp only [spec_CombOf.f]
  refine Ev.bind (spec_l10Pure.ev n l hf) ?_
  unfold combM
  by_cases hp : pureM n l = 0
  · have h : isBraidB n l = true := by
      by_cases h : isBraidB n l = true
      · exact h
      · rw [pureM, if_neg h] at hp; omega
    obtain ⟨hn, hb, _⟩ := isBraidB_iff.1 h
    simp only [if_pos hp]
    refine Ev.bind (spec_l10Comb.ev n l hn hb (braid_letters h)) ?_
    cases e : combGo' (n - 1).toNat l [] with
    | none => exact Ev.now _
    | some r =>
      simp only [combB', if_true]
      exact Ev.now _
  · simp only [if_neg hp]
    exact Ev.now _

/-! ### spec_l10Expansion -/
-- use LibExp
theorem spec_l10Expansion.ev2 (l : List Int) (j : Nat) (hj : j ≤ 7) (out : List (List Int)) (first : List Int) (h : Sq j (out, first)) (i b s : Int) (hb : 0 ≤ b ∧ b < (j : Int)) (R : List (List Int))
    (next : Ev (fun k => spec_l10Expansion.l1 k l (j : Int) (first.set b.toNat (wrap64 (rd first b + s))) (exUpd (exRow1 out first b s) out.length) (wrap64 (i + 1))) R) : ∀ (d a : Nat), a + d = j →
    Ev (fun k => spec_l10Expansion.l2 k l (j : Int) first ((exUpd (exRow1 out first b s) out.length).take a ++ out.drop a) i b s (a : Int)) R := by
  have hlo : out.length = j := h.1
  have hlf : first.length = j := h.2.2
  intro d
  induction d with
  | zero =>
    intro a ha
    refine Ev.succ ?_
    have c1 : ¬ (a : Int) < (j : Int) := by omega
    have c2 : 0 ≤ b := hb.1
    have c3 : b < (first.length : Int) := by omega
    simp only [spec_l10Expansion.l2, if_neg c1, if_pos c2, if_pos c3]
    rw [List.take_of_length_le (by rw [exUpd_length]; omega), List.drop_of_length_le (by omega), List.append_nil]
    exact next
  | succ d ih =>
    intro a ha
    have hal : a < out.length := by omega
    have hra : (rdl out (a : Int)).length = j := h.2.1 _ (rdl_mem out a hal)
    have hml := mix_length (exRow1 out first b s) out a (by omega)
    have hmr := mix_rdl (exRow1 out first b s) out a hal
    have hms := mix_set (exRow1 out first b s) out a hal
    have hn := ih (a + 1) (by omega)
    rw [← hms] at hn
    generalize hX : (exUpd (exRow1 out first b s) out.length).take a ++ out.drop a = X at hml hmr hn ⊢
    have w1 := Aside0.mk (show wrap64 ((a : Int) + 1) = ((a + 1 : Nat) : Int) from (w64 (by omega) (by omega)).trans (by omega))
    have c1 : (a : Int) < (j : Int) := by omega
    have c2 : 0 ≤ (a : Int) := by omega
    have c3 : (a : Int) < (X.length : Int) := by omega
    have c4 : 0 ≤ b := hb.1
    have c5 : b < ((rdl out (a : Int)).length : Int) := by omega
    have c6 : (a : Int) < (first.length : Int) := by omega
    have c7 : b < ((exRow0 out first b s a).length : Int) := by rw [exRow0_length]; omega
    refine Ev.succ ?_
    simp only [spec_l10Expansion.l2, if_pos c1, if_pos c2, rdL1_eq, if_pos c3, if_pos c4, hmr, if_pos c5, if_pos c6, Option.bind_some, Int.toNat_natCast, w1.out]
    rw [show (rdl out (a : Int)).set b.toNat (wrap64 (rd (rdl out (a : Int)) b + wrap64 (s * rd first (a : Int)))) = exRow0 out first b s a from rfl, rdl_set X a _ (by omega)]
    by_cases e1 : (a : Int) = b
    · simp only [if_pos e1]
      by_cases e2 : s < 0
      · simp only [if_pos e2, if_pos c7, List.set_set]
        rw [show exRow1 out first b s a = (exRow0 out first b s a).set b.toNat (wrap64 (rd (exRow0 out first b s a) b + 1)) by rw [exRow1, if_pos ⟨e1, e2⟩]; rfl] at hn
        exact hn
      · simp only [if_neg e2]
        rw [show exRow1 out first b s a = exRow0 out first b s a by rw [exRow1, if_neg (fun hh => e2 hh.2)]] at hn
        exact hn
    · simp only [if_neg e1]
      rw [show exRow1 out first b s a = exRow0 out first b s a by rw [exRow1, if_neg (fun hh => e1 hh.1)]] at hn
      exact hn
theorem spec_l10Expansion.ev1 (l : List Int) (j : Nat) (hj : j ≤ 7) (hl : In_ (j : Int) l) (hb : l.length ≤ 400) : ∀ (d i : Nat) (st : List (List Int) × List Int), i + d = l.length → Sq j st →
    Ev (fun k => spec_l10Expansion.l1 k l (j : Int) st.2 st.1 (i : Int)) ((l.drop i).foldl exStep st).1 := by
  intro d
  induction d with
  | zero =>
    intro i st hi h
    refine Ev.succ ?_
    have c1 : ¬ (i : Int) < (l.length : Int) := by omega
    simp only [spec_l10Expansion.l1, if_neg c1]
    exact Ev.pure (by rw [List.drop_of_length_le (by omega)]; rfl)
  | succ d ih =>
    intro i st hi h
    have hx := hl _ (rd_mem l i (by omega))
    have h1 := absI_pos hx.1
    have h2 := absI_bd (x := rd l (i : Int)) (b := (j : Int)) hx.2
    have W := Aside0.mk (w64 (x := -rd l (i : Int)) (by omega) (by omega))
    have wk := Aside0.mk (w64 (x := absI (rd l (i : Int)) - 1) (by omega) (by omega))
    have w1 : wrap64 ((i : Int) + 1) = ((i + 1 : Nat) : Int) := (w64 (by omega) (by omega)).trans (by omega)
    have ha : mx (rd l (i : Int)) (-rd l (i : Int)) = absI (rd l (i : Int)) := rfl
    have c1 : (i : Int) < (l.length : Int) := by omega
    have c2 : 0 ≤ (i : Int) := by omega
    have next := ih (i + 1) (exStep st (rd l (i : Int))) (by omega) (exStep_sq h _)
    rw [← w1] at next
    have key : Ev (fun k => spec_l10Expansion.j2 k l (j : Int) st.2 st.1 (i : Int) (absI (rd l (i : Int)) - 1) (sgnI (rd l (i : Int)))) ((l.drop i).foldl exStep st).1 := by
      rw [drop_rd l i (by omega), List.foldl_cons]
      refine Ev.succ ?_
      simp only [spec_l10Expansion.j2]
      have := spec_l10Expansion.ev2 l j hj st.1 st.2 h (i : Int) (absI (rd l (i : Int)) - 1) (sgnI (rd l (i : Int))) (by omega) _ next j 0 (by omega)
      simpa using this
    rw [sgn_lt hx.1] at key
    refine Ev.succ ?_
    simp only [spec_l10Expansion.l1, if_pos c1, if_pos c2, W.out, ha, wk.out]
    by_cases e : rd l (i : Int) < 0
    · simp only [if_pos e] at key ⊢; exact key
    · simp only [if_neg e] at key ⊢; exact key
theorem spec_l10Expansion.ev0 (l : List Int) (j : Nat) (hj : j ≤ 7) (first : List Int) (R : List (List Int)) (next : Ev (fun k => spec_l10Expansion.l1 k l (j : Int) first (List.replicate j (List.replicate j 0)) 0) R) : ∀ (d i : Nat), i + d = j →
    Ev (fun k => spec_l10Expansion.l0 k l (j : Int) first (List.replicate i (List.replicate j 0)) (i : Int)) R := by
  intro d
  induction d with
  | zero =>
    intro i hi
    refine Ev.succ ?_
    have c1 : ¬ (i : Int) < (j : Int) := by omega
    obtain rfl : i = j := by omega
    simp only [spec_l10Expansion.l0, if_neg c1]
    exact next
  | succ d ih =>
    intro i hi
    have w1 := Aside0.mk (show wrap64 ((i : Int) + 1) = ((i + 1 : Nat) : Int) from (w64 (by omega) (by omega)).trans (by omega))
    have c1 : (i : Int) < (j : Int) := by omega
    have c2 : 0 ≤ (j : Int) := by omega
    have c3 : j ≤ 35184372088832 := by omega
    have c4 : (List.replicate i (List.replicate j (0 : Int))).length < 5864062014805 := by simp; omega
    refine Ev.succ ?_
    simp only [spec_l10Expansion.l0, if_pos c1, if_pos c2, Int.toNat_natCast, if_pos c3, if_pos c4, w1.out]
    have := ih (i + 1) (by omega)
    rw [List.replicate_succ'] at this
    exact this
theorem spec_l10Expansion.ev (l : List Int) (j : Nat) (hj : j ≤ 7) (hl : In_ (j : Int) l) (hb : l.length ≤ 400) : Ev (fun k => spec_l10Expansion.f k l (j : Int)) (expW j l) := by
  have c2 : 0 ≤ (j : Int) := by omega
  have c3 : j ≤ 35184372088832 := by omega
  simp only [spec_l10Expansion.f, if_pos c2, Int.toNat_natCast, if_pos c3]
  have := spec_l10Expansion.ev0 l j hj (List.replicate j 0) (expW j l) (by
    have := spec_l10Expansion.ev1 l j hj hl hb l.length 0 _ (by omega) (zero_sq j)
    simpa [expW] using this) j 0 (by omega)
  simpa using this

/-! ### spec_ExpansionOf -/
-- use LibExp
theorem spec_ExpansionOf.ev (n : Int) (l : List Int) (j : Int) (hf : Fits l) : Ev (fun k => spec_ExpansionOf.f k n l j) (expM n l j) := by
  simp only [spec_ExpansionOf.f]
  refine Ev.bind (spec_l01Is.ev n l hf) ?_
  unfold expM
  by_cases h : isBraidB n l = true
  · obtain ⟨hn, hb, _⟩ := isBraidB_iff.1 h
    have w1 := Aside0.mk (w64 (x := n - 1) (by omega) (by omega))
    simp only [if_pos h, w1.out, spec_l01In.eq, Option.bind_some]
    by_cases hj : 1 ≤ j ∧ j ≤ n - 1
    · have e : inB j 1 (n - 1) = true := inB_iff.2 hj
      have w2 := Aside0.mk (w64 (x := n - 1 - j) (by omega) (by omega))
      simp only [e, if_true, if_pos hj, w2.out]
      refine Ev.bind (spec_CombOf.ev n l hf) ?_
      by_cases hc : (combM n l).2 = 0
      · have ht := comb_tooth h hj (combM_some h hc)
        have c1 : 0 ≤ n - 1 - j := by omega
        have c2 : n - 1 - j < ((combM n l).1.length : Int) := by omega
        simp only [if_pos hc, if_pos c1, if_pos c2, rdL1_eq]
        have := spec_l10Expansion.ev (rdl (combM n l).1 (n - 1 - j)) j.toNat (by omega) (by rw [show ((j.toNat : Nat) : Int) = j by omega]; exact ht.2.1) ht.2.2
        rw [show ((j.toNat : Nat) : Int) = j by omega] at this
        refine Ev.bind this ?_
        exact Ev.now _
      · simp only [if_neg hc]; exact Ev.now _
    · have e : inB j 1 (n - 1) = false := inB_not.2 hj
      simp only [e, Bool.false_eq_true, if_false, if_neg hj]
      exact Ev.now _
  · simp only [if_neg h]
    exact Ev.now _

/-! ### impl_within -/
theorem impl_within.eq (a lo hi : Int) : impl_within.f a lo hi = some (inB a lo hi) := by
  unfold impl_within.f inB
  by_cases h : lo ≤ a <;> simp [h]

/-! ### impl_isCount -/
theorem impl_isCount.eq (a : Int) : impl_isCount.f a = some (inB a 1 8) := by simp only [impl_isCount.f, impl_within.eq, Option.bind_some]

/-! ### impl_isLetter -/
theorem impl_isLetter.eq (x n : Int) (h1 : 1 ≤ n) (h8 : n ≤ 8) : impl_isLetter.f x n = some (letterB n x) := by
  simp (disch := omega) only [impl_isLetter.f, impl_within.eq, Option.bind_some, w64]
  unfold letterB
  split <;> simp_all

/-! ### impl_IsBraid -/
theorem impl_IsBraid.ev0 (n : Int) (l : List Int) (h1 : 1 ≤ n) (h8 : n ≤ 8) (hb : l.length ≤ 200) : ∀ (d i : Nat), i + d = l.length →
    Ev (fun k => impl_IsBraid.l0 k l (l.length : Int) (i : Int) n l) ((l.drop i).all (letterB n)) := by
  intro d
  induction d with
  | zero =>
    intro i hi
    refine Ev.succ ?_
    simp (disch := omega) only [impl_IsBraid.l0, if_neg]
    exact Ev.pure (by rw [List.drop_of_length_le (by omega)]; rfl)
  | succ d ih =>
    intro i hi
    refine Ev.succ ?_
    simp (disch := omega) only [impl_IsBraid.l0, if_pos, w64, impl_isLetter.eq, Option.bind_some]
    rw [drop_rd l i (by omega), List.all_cons]
    cases h : letterB n (rd l i) with
    | true => simp only [if_true, Bool.true_and]; exact ih (i + 1) (by omega)
    | false => exact Ev.pure (by simp)
theorem impl_IsBraid.ev (n : Int) (l : List Int) : Ev (fun k => impl_IsBraid.f k n l) (isBraidB n l) := by
  simp only [impl_IsBraid.f, impl_isCount.eq, Option.bind_some]
  unfold isBraidB
  cases hn : inB n 1 8 with
  | false =>
    refine Ev.succ ?_
    simp [impl_IsBraid.j0]
    exact Ev.now _
  | true =>
    obtain ⟨h1, h8⟩ := inB_iff.1 hn
    refine Ev.succ ?_
    simp only [if_true, impl_IsBraid.j0, Bool.true_and]
    by_cases hl : l.length ≤ 200
    · have : ¬ ((l.length : Int) > 200) := by omega
      simp only [this, decide_false, Bool.false_eq_true, if_false, hl, decide_true, Bool.true_and]
      exact Ev.to (impl_IsBraid.ev0 n l h1 h8 hl l.length 0 (by omega)) (by simp)
    · have : ((l.length : Int) > 200) := by omega
      simp only [this, decide_true, if_true, hl, decide_false, Bool.false_and]
      exact Ev.now _

/-! ### impl_sign -/
-- use LibStrand
theorem impl_sign.eq (x : Int) : impl_sign.f x = some (sgnI x) := by
  unfold impl_sign.f sgnI
  split <;> rfl

/-! ### impl_size -/
theorem impl_size.eq (x : Int) (h : -4611686018427387904 ≤ x ∧ x ≤ 4611686018427387904) : impl_size.f x = some (absI x) := by
  have e : wrap64 (-x) = -x := w64 (by omega) (by omega)
  simp only [impl_size.f, e, absI]

/-! ### impl_strandsOf -/
-- use LibPure
theorem impl_strandsOf.ev0 (n : Nat) (hn : n ≤ 8) : ∀ (d i : Nat) (acc : List Int), i + d = n → acc.length ≤ i → Ev (fun k => impl_strandsOf.l0 k acc (n : Int) (i : Int)) (acc ++ iota (i : Int) d) := by
  intro d
  induction d with
  | zero =>
    intro i acc hi ha
    refine Ev.succ ?_
    simp (disch := omega) only [impl_strandsOf.l0, if_neg]
    exact Ev.pure (by simp [iota])
  | succ d ih =>
    intro i acc hi ha
    refine Ev.succ ?_
    have c1 : (i : Int) < (n : Int) := by omega
    have c2 : acc.length < 17592186044416 := by omega
    have w1 := Aside0.mk (show wrap64 ((i : Int) + 1) = ((i + 1 : Nat) : Int) from (w64 (by omega) (by omega)).trans (by omega))
    simp only [impl_strandsOf.l0, if_pos c1, if_pos c2, w1.out]
    exact Ev.to (ih (i + 1) (acc ++ [(i : Int)]) (by omega) (by simp; omega)) (by simp [iota])
theorem impl_strandsOf.ev (n : Int) (hn : 0 ≤ n ∧ n ≤ 8) : Ev (fun k => impl_strandsOf.f k n) (iota 0 n.toNat) := by
  obtain ⟨m, rfl⟩ : ∃ m : Nat, n = (m : Int) := ⟨n.toNat, by omega⟩
  simp only [impl_strandsOf.f, Int.toNat_natCast]
  exact Ev.to (impl_strandsOf.ev0 m (by omega) m 0 [] (by omega) (by simp)) (by simp)

/-! ### impl_follow -/
-- use LibPure
theorem impl_follow.ev0 (n : Nat) (hn : n ≤ 8) (l : List Int) (hb : l.length ≤ 200) (hl : ∀ x ∈ l, 1 ≤ absI x ∧ absI x < (n : Int)) : ∀ (d i : Nat) (xs : List Int), i + d = l.length → xs.length = n →
    Ev (fun k => impl_follow.l0 k xs l (l.length : Int) (i : Int)) ((l.drop i).foldl swI xs) := by
  intro d
  induction d with
  | zero =>
    intro i xs hi ha
    refine Ev.succ ?_
    simp (disch := omega) only [impl_follow.l0, if_neg]
    exact Ev.pure (by rw [List.drop_of_length_le (by omega)]; rfl)
  | succ d ih =>
    intro i xs hi ha
    have hx := hl _ (rd_mem l i (by omega))
    have hb := absI_eq (rd l (i : Int))
    have h8 : -8 ≤ rd l (i : Int) ∧ rd l (i : Int) ≤ 8 := by split at hb <;> omega
    have hsz := Aside0.mk (impl_size.eq (rd l (i : Int)) (by omega))
    have w1 := Aside0.mk (show wrap64 ((i : Int) + 1) = ((i + 1 : Nat) : Int) from (w64 (by omega) (by omega)).trans (by omega))
    have wk := Aside0.mk (w64 (x := absI (rd l (i : Int)) - 1) (by omega) (by omega))
    have c1 : (i : Int) < (l.length : Int) := by omega
    have c2 : 0 ≤ (i : Int) := by omega
    have c3 : 0 ≤ absI (rd l (i : Int)) - 1 := by omega
    have c4 : absI (rd l (i : Int)) - 1 < (xs.length : Int) := by omega
    have c5 : 0 ≤ absI (rd l (i : Int)) := by omega
    have c6 : absI (rd l (i : Int)) < (xs.length : Int) := by omega
    refine Ev.succ ?_
    rw [drop_rd l i (by omega), List.foldl_cons]
    simp only [impl_follow.l0, if_pos c1, if_pos c2, hsz.out, Option.bind_some, wk.out, if_pos c3, if_pos c4, if_pos c5, if_pos c6, w1.out]
    exact ih (i + 1) (swI xs (rd l (i : Int))) (by omega) (by simp [swI, ha])
theorem impl_follow.ev (n : Int) (l : List Int) (f : Int) (h : isBraidB n l = true) : Ev (fun k => impl_follow.f k n l f) (atL n.toNat l) := by
  obtain ⟨hn, hb, _⟩ := isBraidB_iff.1 h
  simp only [impl_follow.f]
  refine Ev.bind (impl_strandsOf.ev n (by omega)) ?_
  exact Ev.to (impl_follow.ev0 n.toNat (by omega) l hb (braid_sizes h) l.length 0 (iota 0 n.toNat) (by omega) (iota_length _ _)) (by simp [atL])

/-! ### impl_endsOf -/
-- use LibPure
theorem impl_endsOf.ev0 (n : Nat) (hn : n ≤ 8) (s : List Int) (hs : InN n s) : ∀ (d i : Nat), i + d = n →
    Ev (fun k => impl_endsOf.l0 k (endsGo s n i) s (s.length : Int) (i : Int)) (endsGo s n n) := by
  have hl := hs.1
  intro d
  induction d with
  | zero =>
    intro i hi
    refine Ev.succ ?_
    simp (disch := omega) only [impl_endsOf.l0, if_neg]
    obtain rfl : i = n := by omega
    exact Ev.now _
  | succ d ih =>
    intro i hi
    have hr := rd_in hs (x := (i : Int)) (by omega) (by omega)
    have he := endsGo_length s n i
    have w1 := Aside0.mk (show wrap64 ((i : Int) + 1) = ((i + 1 : Nat) : Int) from (w64 (by omega) (by omega)).trans (by omega))
    have c1 : (i : Int) < (s.length : Int) := by omega
    have c2 : 0 ≤ (i : Int) := by omega
    have c4 : rd s (i : Int) < ((endsGo s n i).length : Int) := by omega
    refine Ev.succ ?_
    simp only [impl_endsOf.l0, if_pos c1, if_pos c2, if_pos hr.1, if_pos c4, w1.out]
    exact ih (i + 1) (by omega)
theorem impl_endsOf.ev (n : Int) (l : List Int) (h : isBraidB n l = true) : Ev (fun k => impl_endsOf.f k n l) (endsGo (atL n.toNat l) n.toNat n.toNat) := by
  obtain ⟨hn, hb, _⟩ := isBraidB_iff.1 h
  have c1 : 0 ≤ n := by omega
  have c2 : n.toNat ≤ 35184372088832 := by omega
  simp only [impl_endsOf.f, if_pos c1, if_pos c2]
  refine Ev.bind (impl_follow.ev n l 0 h) ?_
  exact impl_endsOf.ev0 n.toNat (by omega) _ (atL_in (braid_sizes h)) n.toNat 0 (by omega)

/-! ### impl_isPure -/
-- use LibPure
theorem impl_isPure.ev0 (s : List Int) (hs : s.length ≤ 8) : ∀ (d i : Nat), i + d = s.length →
    Ev (fun k => impl_isPure.l0 k s (s.length : Int) (i : Int)) (pureGo s i d) := by
  intro d
  induction d with
  | zero =>
    intro i hi
    refine Ev.succ ?_
    simp (disch := omega) only [impl_isPure.l0, if_neg]
    exact Ev.now _
  | succ d ih =>
    intro i hi
    have w1 := Aside0.mk (show wrap64 ((i : Int) + 1) = ((i + 1 : Nat) : Int) from (w64 (by omega) (by omega)).trans (by omega))
    have c1 : (i : Int) < (s.length : Int) := by omega
    have c2 : 0 ≤ (i : Int) := by omega
    refine Ev.succ ?_
    simp only [impl_isPure.l0, if_pos c1, if_pos c2, w1.out, pureGo]
    by_cases h : (i : Int) = rd s (i : Int)
    · simp only [if_pos h]
      exact Ev.to (ih (i + 1) (by omega)) (by simp only [decide_eq_true h, Bool.true_and])
    · simp only [if_neg h]
      exact Ev.pure (by simp only [decide_eq_false h, Bool.false_and])
theorem impl_isPure.ev (n : Int) (l : List Int) (h : isBraidB n l = true) : Ev (fun k => impl_isPure.f k n l) (pureB n l) := by
  obtain ⟨hn, hb, _⟩ := isBraidB_iff.1 h
  have hl := endsGo_length (atL n.toNat l) n.toNat n.toNat
  simp only [impl_isPure.f]
  refine Ev.bind (impl_endsOf.ev n l h) ?_
  exact Ev.to (impl_isPure.ev0 _ (by omega) n.toNat 0 (by omega)) (pureGo_eq n l)

/-! ### impl_freed -/
theorem impl_freed.ev0 (l : List Int) (hs : Small l) (hb : l.length ≤ 1099511627776) : ∀ (d i : Nat) (acc : List Int), i + d = l.length → acc.length + d ≤ 4398046511104 →
    Ev (fun k => impl_freed.l0 k acc l (l.length : Int) (i : Int)) (pushAll acc (l.drop i)) := by
  intro d
  induction d with
  | zero =>
    intro i acc hi ha
    refine Ev.succ ?_
    simp (disch := omega) only [impl_freed.l0, if_neg]
    exact Ev.pure (by rw [List.drop_of_length_le (by omega)]; rfl)
  | succ d ih =>
    intro i acc hi ha
    refine Ev.succ ?_
    have hx := hs.rd i (by omega)
    have hw2 : wrap64 ((i : Int) + 1) = ((i + 1 : Nat) : Int) := w64 (by omega) (by omega)
    have hwn : wrap64 (-(rd l (i : Int))) = -(rd l (i : Int)) := w64 (by omega) (by omega)
    have ih' := fun acc h => ih (i + 1) acc (by omega) h
    rw [drop_rd l i (by omega)]
    simp only [pushAll, List.foldl_cons, push1] at ih' ⊢
    by_cases h0 : acc.length = 0
    · have e : acc = [] := List.eq_nil_of_length_eq_zero h0
      subst e
      simp (disch := omega) only [impl_freed.l0, if_pos, if_neg, hw2, List.length_nil]
      exact ih' [rd l i] (by simp; omega)
    · have hwa : wrap64 ((acc.length : Int) - 1) = (acc.length : Int) - 1 := w64 (by omega) (by omega)
      simp (disch := omega) only [impl_freed.l0, if_pos, if_neg, hw2, hwa, hwn]
      rw [last_rd acc (by omega)]
      by_cases hq : rd acc ((acc.length : Int) - 1) = -rd l (i : Int)
      · simp only [if_pos hq, Option.some.injEq]
        rw [show (((acc.length : Int) - 1).toNat) = acc.length - 1 from by omega, take_last]
        exact ih' acc.dropLast (by simp; omega)
      · simp only [if_neg hq, Option.some.injEq]
        exact ih' (acc ++ [rd l i]) (by simp; omega)
theorem impl_freed.ev (a l : List Int) (hs : Small l) (ha : a.length ≤ 1099511627776) (hb : l.length ≤ 1099511627776) : Ev (fun k => impl_freed.f k a l) (pushAll a l) := by
  simp only [impl_freed.f]
  exact Ev.to (impl_freed.ev0 l hs hb l.length 0 a (by omega) (by omega)) (by simp)

/-! ### impl_leadBy -/
-- use LibTooth
theorem impl_leadBy.ev (y x : Int) (hy : y ≠ 0 ∧ -7 ≤ y ∧ y ≤ 7) : Ev (fun k => impl_leadBy.f k y x) (leadW y x) := by
  have hk1 := absI_pos hy.1
  have hk7 := absI_bd hy.2
  have wp := Aside0.mk (w64 (x := absI y + 1) (by omega) (by omega))
  have wn := Aside0.mk (w64 (x := -absI y) (by omega) (by omega))
  have wn1 := Aside0.mk (w64 (x := -(absI y + 1)) (by omega) (by omega))
  unfold leadW
  have hsz := impl_size.eq y (by omega)
  simp only [impl_leadBy.f, hsz, Option.bind_some]
  generalize absI y = m at *
  by_cases h : y > 0
  · have h' : ¬ y < 0 := by omega
    simp only [if_pos h]
    refine Ev.succ ?_
    simp only [impl_leadBy.j0, wp.out, if_pos h]
    by_cases e1 : x = m
    · subst e1
      simp only [beq_self_eq_true, if_true, h, true_and]
      exact Ev.now _
    · have b1 : (x == m) = false := by simp [e1]
      simp only [b1, Bool.false_eq_true, if_false]
      refine Ev.succ ?_
      simp only [impl_leadBy.j1, wp.out, wn1.out, if_neg h']
      by_cases e2 : x = m + 1
      · have b2 : (x == m + 1) = true := by simp [e2]
        simp only [b2, if_true]
        exact Ev.pure (by rw [if_neg (by omega), if_pos ⟨h, e2⟩])
      · have b2 : (x == m + 1) = false := by simp [e2]
        simp only [b2, Bool.false_eq_true, if_false]
        refine Ev.succ ?_
        simp only [impl_leadBy.j2, Bool.false_eq_true, if_false, if_neg h']
        exact Ev.pure (by rw [if_neg (by omega), if_neg (by omega), if_neg (by omega), if_neg (by omega)])
  · have h' : y < 0 := by omega
    simp only [if_neg h]
    refine Ev.succ ?_
    simp only [impl_leadBy.j0, Bool.false_eq_true, if_false, if_neg h]
    refine Ev.succ ?_
    simp only [impl_leadBy.j1, Bool.false_eq_true, if_false, if_pos h', wp.out]
    refine Ev.succ ?_
    simp only [impl_leadBy.j2, wp.out, wn.out, if_pos h']
    by_cases e2 : x = m + 1
    · have b2 : (x == m + 1) = true := by simp [e2]
      simp only [b2, if_true]
      exact Ev.pure (by rw [if_neg (by omega), if_neg (by omega), if_pos ⟨h', e2⟩])
    · have b2 : (x == m + 1) = false := by simp [e2]
      simp only [b2, Bool.false_eq_true, if_false]
      by_cases e1 : x = m
      · simp only [if_pos e1]
        exact Ev.pure (by rw [if_neg (by omega), if_neg (by omega), if_neg (by omega), if_pos ⟨h', e1⟩])
      · simp only [if_neg e1]
        exact Ev.pure (by rw [if_neg (by omega), if_neg (by omega), if_neg (by omega), if_neg (by omega)])

/-! ### impl_backward -/
theorem impl_backward.ev0 (l : List Int) (hs : Small l) (hb : l.length ≤ 1099511627776) : ∀ (d : Nat) (acc : List Int), d ≤ l.length → acc.length + d ≤ 1099511627776 →
    Ev (fun k => impl_backward.l0 k l acc ((d : Int) - 1)) (acc ++ back (l.take d)) := by
  intro d
  induction d with
  | zero =>
    intro acc hd ha
    refine Ev.succ ?_
    simp (disch := omega) only [impl_backward.l0, if_neg]
    exact Ev.pure (by simp [back])
  | succ d ih =>
    intro acc hd ha
    refine Ev.succ ?_
    have hx := hs.rd d (by omega)
    have e : ((d + 1 : Nat) : Int) - 1 = (d : Int) := by omega
    rw [e]
    simp (disch := omega) only [impl_backward.l0, if_pos, w64]
    refine Ev.to (ih (acc ++ [-rd l (d : Int)]) (by omega) (by simp; omega)) ?_
    rw [take_rd l d (by omega), back_snoc]
    simp
theorem impl_backward.ev (l : List Int) (hs : Small l) (hb : l.length ≤ 1099511627776) : Ev (fun k => impl_backward.f k l) (back l) := by
  have e : wrap64 ((l.length : Int) - 1) = (l.length : Int) - 1 := w64 (by omega) (by omega)
  simp only [impl_backward.f, e]
  exact Ev.to (impl_backward.ev0 l hs hb l.length [] (by omega) (by simpa using hb)) (by simp)

/-! ### impl_led -/
-- use LibTooth
theorem impl_led.ev1 (l w : List Int) (p : Nat) (hp : p < l.length) (hpl : l.length ≤ 200) (hy : rd l (p : Int) ≠ 0 ∧ -7 ≤ rd l (p : Int) ∧ rd l (p : Int) ≤ 7) (hw : Gens w) (hwl : w.length ≤ 400) (R : List Int × Int) : ∀ (d i : Nat) (acc : List Int), i + d = w.length → Gens acc → acc.length ≤ 3 * i →
    (Ev (fun k => impl_led.l1 k l (p : Int) ((w.drop i).foldl (fun acc x => pushAll acc (leadS (rd l (p : Int)) x)) acc) w (w.length : Int) (w.length : Int)) R) → Ev (fun k => impl_led.l1 k l (p : Int) acc w (w.length : Int) (i : Int)) R := by
  intro d
  induction d with
  | zero =>
    intro i acc hi hg ha hR
    rw [List.drop_of_length_le (by omega)] at hR
    have : i = w.length := by omega
    subst this
    exact hR
  | succ d ih =>
    intro i acc hi hg ha hR
    have hx := hw _ (rd_mem w i (by omega))
    have hk1 := absI_pos hx.1
    have hk8 := absI_bd hx.2
    have W := Aside0.mk (w64 (x := -rd w (i : Int)) (by omega) (by omega))
    have w1 := Aside0.mk (w64 (x := (i : Int) + 1) (by omega) (by omega))
    have hgi := leadS_gens hy hx
    have hli := leadS_length (rd l (p : Int)) (rd w (i : Int))
    have hpl := pushAll_length acc (leadS (rd l (p : Int)) (rd w (i : Int)))
    have c1 : (i : Int) < (w.length : Int) := by omega
    have c2 : 0 ≤ (i : Int) := by omega
    have c3 : 0 ≤ (p : Int) := by omega
    have c4 : (p : Int) < (l.length : Int) := by omega
    rw [drop_rd w i (by omega), List.foldl_cons] at hR
    have next := ih (i + 1) (pushAll acc (leadS (rd l (p : Int)) (rd w (i : Int)))) (by omega) (fun z hz => by
      rcases pushAll_mem hz with h | h
      · exact hg z h
      · exact hgi z h) (by omega) hR
    refine Ev.succ ?_
    simp only [impl_led.l1, if_pos c1, if_pos c2, if_pos c3, if_pos c4, W.out, w1.out]
    by_cases h : rd w (i : Int) > 0
    · have ea : absI (rd w (i : Int)) = rd w (i : Int) := by rw [absI_eq, if_pos (by omega)]
      have es : leadS (rd l (p : Int)) (rd w (i : Int)) = leadW (rd l (p : Int)) (rd w (i : Int)) := by rw [leadS, if_neg (by omega), ea]
      rw [es] at next hgi hli
      simp only [if_pos h]
      refine Ev.bind (impl_leadBy.ev _ _ hy) ?_
      exact Ev.bind (impl_freed.ev acc _ hgi.small (by omega) (by omega)) next
    · have ea : absI (rd w (i : Int)) = -rd w (i : Int) := by rw [absI_eq, if_neg (by omega)]
      have es : leadS (rd l (p : Int)) (rd w (i : Int)) = back (leadW (rd l (p : Int)) (-rd w (i : Int))) := by rw [leadS, if_pos (by omega), ea]
      have hiw := leadW_gens hy (x := -rd w (i : Int)) ⟨by omega, by omega, by omega⟩
      have hil := leadW_length (rd l (p : Int)) (-rd w (i : Int))
      rw [es] at next hgi hli
      simp only [if_neg h]
      refine Ev.bind (impl_leadBy.ev _ _ hy) ?_
      refine Ev.bind (impl_backward.ev _ hiw.small (by omega)) ?_
      exact Ev.bind (impl_freed.ev acc _ hgi.small (by omega) (by omega)) next
def ledR : Option (List Int) → List Int × Int
  | some r => (r, 0)
  | none => ([], 3)
theorem impl_led.ev0 (l : List Int) (hpl : l.length ≤ 200) (hl : ∀ y ∈ l, y ≠ 0 ∧ -7 ≤ y ∧ y ≤ 7) : ∀ (m : Nat) (w : List Int), m ≤ l.length → Gens w → w.length ≤ 400 →
    Ev (fun k => impl_led.l0 k l w ((m : Int) - 1)) (ledR (ledTo l m w)) := by
  intro m
  induction m with
  | zero =>
    intro w hm hg hw
    refine Ev.succ ?_
    have c1 : ¬ (((0 : Nat) : Int) - 1 ≥ 0) := by omega
    simp only [impl_led.l0, if_neg c1]
    exact Ev.now _
  | succ m ih =>
    intro w hm hg hw
    refine Ev.succ ?_
    have e : ((m + 1 : Nat) : Int) - 1 = (m : Int) := by omega
    have hy := hl _ (rd_mem l m (by omega))
    have c1 : (m : Int) ≥ 0 := by omega
    rw [e, ledTo]
    simp only [impl_led.l0, if_pos c1]
    have hg1 := led1_gens hy hg
    refine impl_led.ev1 l w m (by omega) hpl hy hg hw _ w.length 0 [] (by omega) (by simp [Gens]) (by simp) ?_
    refine Ev.succ ?_
    have c2 : ¬ (w.length : Int) < (w.length : Int) := by omega
    have w1 := Aside0.mk (w64 (x := (m : Int) - 1) (by omega) (by omega))
    show Ev (fun k => impl_led.l1 (k + 1) l (m : Int) (led1 (rd l (m : Int)) (w.drop 0)) w (w.length : Int) (w.length : Int)) _
    rw [List.drop_zero]
    simp only [impl_led.l1, if_neg c2, w1.out]
    by_cases c3 : ((led1 (rd l (m : Int)) w).length : Int) > 400
    · simp only [if_pos c3]
      exact Ev.now _
    · simp only [if_neg c3]
      exact ih _ (by omega) hg1 (by omega)
theorem impl_led.ev (x : Int) (l : List Int) (hx : x ≠ 0 ∧ -8 ≤ x ∧ x ≤ 8) (hpl : l.length ≤ 200) (hl : ∀ y ∈ l, y ≠ 0 ∧ -7 ≤ y ∧ y ≤ 7) : Ev (fun k => impl_led.f k x l) (ledR (ledTo l l.length [x])) := by
  have w1 : wrap64 ((l.length : Int) - 1) = (l.length : Int) - 1 := w64 (by omega) (by omega)
  simp only [impl_led.f, w1]
  exact impl_led.ev0 l hpl hl l.length [x] (by omega) (fun z hz => by rw [List.mem_singleton.1 hz]; exact hx) (by simp)

/-! ### impl_tooth -/
-- use LibTooth
def toothR : Option (List Int × List Int) → List Int × List Int × Int
  | some r => (r.1, r.2, 0)
  | none => ([], [], 3)
theorem impl_tooth.ev0 (l : List Int) (hb : l.length ≤ 200) (hl : ∀ y ∈ l, y ≠ 0 ∧ -7 ≤ y ∧ y ≤ 7) : ∀ (d i : Nat) (f w : List Int) (p : Int), i + d = l.length → (∀ y ∈ w, y ≠ 0 ∧ -7 ≤ y ∧ y ≤ 7) → w.length ≤ i → 0 ≤ p → p ≤ 7 → f.length ≤ 400 →
    Ev (fun k => impl_tooth.l0 k f w p l (l.length : Int) (i : Int)) (toothR (toothGo (l.drop i) f w p)) := by
  intro d
  induction d with
  | zero =>
    intro i f w p hi hw hwl h0 h7 hf
    refine Ev.succ ?_
    have c1 : ¬ (i : Int) < (l.length : Int) := by omega
    simp only [impl_tooth.l0, if_neg c1]
    exact Ev.pure (by rw [List.drop_of_length_le (by omega)]; rfl)
  | succ d ih =>
    intro i f w p hi hw hwl h0 h7 hf
    refine Ev.succ ?_
    have hx := hl _ (rd_mem l i (by omega))
    have hk1 := absI_pos hx.1
    have hk7 := absI_bd hx.2
    have hw' := stepW_ok hx h0 hw
    have hp' := stepP_ok hx h0 h7
    have ha' := stepA_ok hx h0 h7
    have hle := stepW_length (rd l (i : Int)) w p
    have w1 := Aside0.mk (w64 (x := (i : Int) + 1) (by omega) (by omega))
    have w2 := Aside0.mk (w64 (x := p + 1) (by omega) (by omega))
    have w3 := Aside0.mk (w64 (x := p - 1) (by omega) (by omega))
    have w4 := Aside0.mk (w64 (x := -p) (by omega) (by omega))
    have hsg := sgn_cases (rd l (i : Int))
    have w5 := Aside0.mk (w64 (x := rd l (i : Int) - sgnI (rd l (i : Int))) (by omega) (by omega))
    have c1 : (i : Int) < (l.length : Int) := by omega
    have c2 : 0 ≤ (i : Int) := by omega
    have c3 : w.length < 17592186044416 := by omega
    rw [drop_rd l i (by omega), toothGo]
    -- behind the step
    have step : Ev (fun k => impl_tooth.j1 k f (stepW (rd l (i : Int)) w p) (stepP (rd l (i : Int)) p) (stepA (rd l (i : Int)) p) l (l.length : Int) (i : Int))
        (toothR (if stepA (rd l (i : Int)) p = 0 then toothGo (l.drop (i + 1)) f (stepW (rd l (i : Int)) w p) (stepP (rd l (i : Int)) p)
          else match ledTo (stepW (rd l (i : Int)) w p) (stepW (rd l (i : Int)) w p).length [stepA (rd l (i : Int)) p] with
            | none => none
            | some own => if ((pushAll f own).length : Int) > 400 then none else toothGo (l.drop (i + 1)) (pushAll f own) (stepW (rd l (i : Int)) w p) (stepP (rd l (i : Int)) p))) := by
      refine Ev.succ ?_
      by_cases ca : stepA (rd l (i : Int)) p = 0
      · simp only [impl_tooth.j1, if_pos ca, w1.out]
        exact ih (i + 1) f _ _ (by omega) hw' (by omega) hp'.1 hp'.2 hf
      · simp only [impl_tooth.j1, if_neg ca, w1.out]
        refine Ev.bind (impl_led.ev _ _ ⟨ca, ha'.1, ha'.2⟩ (by omega) hw') ?_
        cases e : ledTo (stepW (rd l (i : Int)) w p) (stepW (rd l (i : Int)) w p).length [stepA (rd l (i : Int)) p] with
        | none => exact Ev.now _
        | some own =>
          have ho := ledTo_ok hw' _ (Nat.le_refl _) (fun z hz => by rw [List.mem_singleton.1 hz]; exact ⟨ca, ha'.1, ha'.2⟩) (by simp) e
          simp only [ledR, if_true]
          refine Ev.bind (impl_freed.ev f own ho.1.small (by omega) (by omega)) ?_
          by_cases c4 : ((pushAll f own).length : Int) > 400
          · simp only [if_pos c4]
            exact Ev.now _
          · simp only [if_neg c4]
            exact ih (i + 1) _ _ _ (by omega) hw' (by omega) hp'.1 hp'.2 (by omega)
    refine Ev.to ?_ rfl
    have hsz := impl_size.eq (rd l (i : Int)) (by omega)
    simp only [impl_tooth.l0, if_pos c1, if_pos c2, hsz, Option.bind_some, impl_sign.eq, if_pos c3, w2.out, w3.out, w4.out, w5.out]
    by_cases k1 : absI (rd l (i : Int)) < p
    · have e1 : stepW (rd l (i : Int)) w p = w ++ [rd l (i : Int)] := by rw [stepW, if_pos k1]
      have e2 : stepP (rd l (i : Int)) p = p := by rw [stepP, if_neg (by omega), if_neg (by omega)]
      have e3 : stepA (rd l (i : Int)) p = 0 := by rw [stepA, if_neg (by omega), if_neg (by omega)]
      rw [e1, e2, e3] at step
      rw [e1, e2, e3]
      simp only [if_pos k1]
      exact step
    · by_cases k2 : absI (rd l (i : Int)) > p + 1
      · have e1 : stepW (rd l (i : Int)) w p = w ++ [rd l (i : Int) - sgnI (rd l (i : Int))] := by rw [stepW, if_neg k1, if_pos k2]
        have e2 : stepP (rd l (i : Int)) p = p := by rw [stepP, if_neg (by omega), if_neg (by omega)]
        have e3 : stepA (rd l (i : Int)) p = 0 := by rw [stepA, if_neg (by omega), if_neg (by omega)]
        rw [e1, e2, e3] at step
        rw [e1, e2, e3]
        simp only [if_neg k1, if_pos k2]
        exact step
      · have e1 : stepW (rd l (i : Int)) w p = w := by rw [stepW, if_neg k1, if_neg k2]
        by_cases k3 : absI (rd l (i : Int)) = p
        · have e2 : stepP (rd l (i : Int)) p = p - 1 := by rw [stepP, if_pos k3]
          by_cases k4 : rd l (i : Int) < 0
          · have e3 : stepA (rd l (i : Int)) p = -p := by rw [stepA, if_pos ⟨k3, k4⟩]
            rw [e1, e2, e3] at step
            rw [e1, e2, e3]
            simp only [if_neg k1, if_neg k2, if_pos k3, if_pos k4]
            exact step
          · have e3 : stepA (rd l (i : Int)) p = 0 := by rw [stepA, if_neg (by omega), if_neg (by omega)]
            rw [e1, e2, e3] at step
            rw [e1, e2, e3]
            simp only [if_neg k1, if_neg k2, if_pos k3, if_neg k4]
            exact step
        · have e2 : stepP (rd l (i : Int)) p = p + 1 := by rw [stepP, if_neg k3, if_pos (by omega)]
          by_cases k4 : rd l (i : Int) > 0
          · have e3 : stepA (rd l (i : Int)) p = p + 1 := by rw [stepA, if_neg (by omega), if_pos ⟨by omega, k4⟩]
            rw [e1, e2, e3] at step
            rw [e1, e2, e3]
            simp only [if_neg k1, if_neg k2, if_neg k3, if_pos k4]
            exact step
          · have e3 : stepA (rd l (i : Int)) p = 0 := by rw [stepA, if_neg (by omega), if_neg (by omega)]
            rw [e1, e2, e3] at step
            rw [e1, e2, e3]
            simp only [if_neg k1, if_neg k2, if_neg k3, if_neg k4]
            exact step
theorem impl_tooth.ev (l : List Int) (j : Int) (hb : l.length ≤ 200) (hl : ∀ y ∈ l, y ≠ 0 ∧ -7 ≤ y ∧ y ≤ 7) (h0 : 0 ≤ j) (h7 : j ≤ 7) : Ev (fun k => impl_tooth.f k l j) (toothR (toothGo l [] [] j)) := by
  simp only [impl_tooth.f]
  exact Ev.to (impl_tooth.ev0 l hb hl l.length 0 [] [] j (by omega) (by simp) (by simp) h0 h7 (by simp)) (by simp)

/-! ### impl_combOf -/
-- use LibTooth
def combR' : Option (List (List Int)) → List (List Int) × Int
  | some r => (r, 0)
  | none => ([], 3)
theorem impl_combOf.ev0 : ∀ (j : Nat) (l : List Int) (acc : List (List Int)), j ≤ 7 → l.length ≤ 200 → (∀ y ∈ l, y ≠ 0 ∧ -7 ≤ y ∧ y ≤ 7) → acc.length + j ≤ 7 →
    Ev (fun k => impl_combOf.l0 k acc l (j : Int)) (combR' (combGo' j l acc)) := by
  intro j
  induction j with
  | zero =>
    intro l acc hj hb hl ha
    refine Ev.succ ?_
    have c1 : ¬ ((0 : Nat) : Int) ≥ 1 := by omega
    simp only [impl_combOf.l0, if_neg c1]
    exact Ev.now _
  | succ j ih =>
    intro l acc hj hb hl ha
    refine Ev.succ ?_
    have c1 : ((j + 1 : Nat) : Int) ≥ 1 := by omega
    have c2 : acc.length < 5864062014805 := by omega
    have w1 := Aside0.mk (show wrap64 (((j + 1 : Nat) : Int) - 1) = (j : Int) from (w64 (by omega) (by omega)).trans (by omega))
    simp only [impl_combOf.l0, if_pos c1, combGo', w1.out]
    refine Ev.bind (impl_tooth.ev l ((j + 1 : Nat) : Int) hb hl (by omega) (by omega)) ?_
    cases e : toothGo l [] [] ((j + 1 : Nat) : Int) with
    | none => exact Ev.now _
    | some r =>
      have h1 := toothGo_ok l (r := r.1) (s := r.2) hl (by simp) (by omega) (by omega) (by simp) e
      have h3 := h1.2.2
      simp only [List.length_nil] at h3
      simp only [toothR, if_true, if_pos c2]
      exact ih r.2 (acc ++ [r.1]) (by omega) (by omega) h1.2.1 (by simp; omega)
theorem impl_combOf.ev (n : Int) (l : List Int) (hn : 1 ≤ n ∧ n ≤ 8) (hb : l.length ≤ 200) (hl : ∀ y ∈ l, y ≠ 0 ∧ -7 ≤ y ∧ y ≤ 7) : Ev (fun k => impl_combOf.f k n l) (combR' (combGo' (n - 1).toNat l [])) := by
  have w1 : wrap64 (n - 1) = (((n - 1).toNat : Nat) : Int) := (w64 (by omega) (by omega)).trans (by omega)
  simp only [impl_combOf.f, w1]
  exact impl_combOf.ev0 _ l [] (by omega) hb hl (by simp; omega)

/-! ### impl_zeroRows -/
-- use LibMat
theorem impl_zeroRows.ev0 (n : Nat) (hn : n ≤ 1048576) : ∀ (d i : Nat) (acc : List (List Int)), i + d = n → acc.length = i →
    Ev (fun t => impl_zeroRows.l0 t (n : Int) acc (n : Int) (i : Int)) (acc ++ List.replicate d (List.replicate n 0)) := by
  intro d
  induction d with
  | zero =>
    intro i acc hi ha
    refine Ev.succ ?_
    have c1 : ¬ (i : Int) < (n : Int) := by omega
    simp only [impl_zeroRows.l0, if_neg c1]
    exact Ev.pure (by simp)
  | succ d ih =>
    intro i acc hi ha
    refine Ev.succ ?_
    have c1 : (i : Int) < (n : Int) := by omega
    have c2 : 0 ≤ (n : Int) := by omega
    have c3 : n ≤ 35184372088832 := by omega
    have c4 : acc.length < 5864062014805 := by omega
    have w1 := Aside0.mk (w64 (x := (i : Int) + 1) (by omega) (by omega))
    simp only [impl_zeroRows.l0, if_pos c1, if_pos c2, if_pos c3, if_pos c4, w1.out, Int.toNat_natCast]
    refine Ev.to (ih (i + 1) _ (by omega) (by simp; omega)) ?_
    rw [List.replicate_succ]
    simp
theorem impl_zeroRows.ev (n : Nat) (hn : n ≤ 1048576) : Ev (fun t => impl_zeroRows.f t (n : Int)) (List.replicate n (List.replicate n 0)) := by
  simp only [impl_zeroRows.f]
  exact Ev.to (impl_zeroRows.ev0 n hn n 0 [] (by omega) rfl) (by simp)

/-! ### impl_ExpansionOf -/
-- use LibExp
theorem impl_ExpansionOf.ev1 (w : List Int) (j : Nat) (hj : j ≤ 7) (out : List (List Int)) (first : List Int) (h : Sq j (out, first)) (i x : Int) (hx : x ≠ 0 ∧ -(j : Int) ≤ x ∧ x ≤ (j : Int)) (R : List (List Int) × Int)
    (next : Ev (fun k => impl_ExpansionOf.l0 k (j : Int) (exUpd (exRow1 out first (absI x - 1) (sgnI x)) out.length) (first.set (absI x - 1).toNat (wrap64 (rd first (absI x - 1) + sgnI x))) w (w.length : Int) (wrap64 (i + 1))) R) : ∀ (d a : Nat), a + d = j →
    Ev (fun k => impl_ExpansionOf.l1 k (j : Int) ((exUpd (exRow0 out first (absI x - 1) (sgnI x)) out.length).take a ++ out.drop a) first x (absI x - 1) w (w.length : Int) i (j : Int) (a : Int)) R := by
  have hlo : out.length = j := h.1
  have hlf : first.length = j := h.2.2
  have hb1 := absI_pos hx.1
  have hb2 := absI_bd (x := x) (b := (j : Int)) hx.2
  have c4 : 0 ≤ absI x - 1 := by omega
  have c8 : absI x - 1 < (first.length : Int) := by omega
  intro d
  induction d with
  | zero =>
    intro a ha
    refine Ev.succ ?_
    have c1 : ¬ (a : Int) < (j : Int) := by omega
    simp only [impl_ExpansionOf.l1, if_neg c1, impl_sign.eq, Option.bind_some]
    rw [List.take_of_length_le (by rw [exUpd_length]; omega), List.drop_of_length_le (by omega), List.append_nil]
    have hul := exUpd_length (exRow0 out first (absI x - 1) (sgnI x)) out.length
    by_cases hs : x < 0
    · have c5 : absI x - 1 < ((exUpd (exRow0 out first (absI x - 1) (sgnI x)) out.length).length : Int) := by omega
      have c6 : absI x - 1 < ((rdl (exUpd (exRow0 out first (absI x - 1) (sgnI x)) out.length) (absI x - 1)).length : Int) := by
        obtain ⟨c, hc⟩ : ∃ c : Nat, absI x - 1 = (c : Int) := ⟨(absI x - 1).toNat, by omega⟩
        have hcl : c < out.length := by omega
        have h5 := exUpd_at (exRow0 out first (absI x - 1) (sgnI x)) out.length c hcl
        have h6 : (rdl out (c : Int)).length = j := h.2.1 _ (rdl_mem out c hcl)
        rw [← hc] at h5
        rw [h5, exRow0_length]
        omega
      have hs2 : sgnI x < 0 := by unfold sgnI; rw [if_neg (by omega)]; omega
      simp only [if_pos hs, if_pos c4, if_pos c5, rdL1_eq, if_pos c6, if_pos c8]
      have e := exUpd_bump out first (absI x - 1) (sgnI x) out.length ⟨by omega, by omega⟩ hs2
      unfold exBump at e
      rw [e]
      exact next
    · have hs2 : ¬ sgnI x < 0 := by unfold sgnI; rw [if_pos (by omega)]; omega
      simp only [if_neg hs, if_pos c4, if_pos c8]
      rw [exUpd_none out first (absI x - 1) (sgnI x) out.length hs2]
      exact next
  | succ d ih =>
    intro a ha
    have hal : a < out.length := by omega
    have hra : (rdl out (a : Int)).length = j := h.2.1 _ (rdl_mem out a hal)
    have hml := mix_length (exRow0 out first (absI x - 1) (sgnI x)) out a (by omega)
    have hmr := mix_rdl (exRow0 out first (absI x - 1) (sgnI x)) out a hal
    have hms := mix_set (exRow0 out first (absI x - 1) (sgnI x)) out a hal
    have hn := ih (a + 1) (by omega)
    rw [← hms] at hn
    generalize hX : (exUpd (exRow0 out first (absI x - 1) (sgnI x)) out.length).take a ++ out.drop a = X at hml hmr hn ⊢
    have w1 := Aside0.mk (show wrap64 ((a : Int) + 1) = ((a + 1 : Nat) : Int) from (w64 (by omega) (by omega)).trans (by omega))
    have c1 : (a : Int) < (j : Int) := by omega
    have c2 : 0 ≤ (a : Int) := by omega
    have c3 : (a : Int) < (X.length : Int) := by omega
    have c5 : absI x - 1 < ((rdl out (a : Int)).length : Int) := by omega
    have c6 : (a : Int) < (first.length : Int) := by omega
    refine Ev.succ ?_
    simp only [impl_ExpansionOf.l1, if_pos c1, if_pos c2, rdL1_eq, if_pos c3, if_pos c4, hmr, if_pos c5, if_pos c6, impl_sign.eq, Option.bind_some, Int.toNat_natCast, w1.out]
    rw [Int.mul_comm (rd first (a : Int)) (sgnI x)]
    exact hn
theorem impl_ExpansionOf.ev0 (w : List Int) (j : Nat) (hj : j ≤ 7) (hl : In_ (j : Int) w) (hb : w.length ≤ 400) : ∀ (d i : Nat) (st : List (List Int) × List Int), i + d = w.length → Sq j st →
    Ev (fun k => impl_ExpansionOf.l0 k (j : Int) st.1 st.2 w (w.length : Int) (i : Int)) (((w.drop i).foldl exStep st).1, 0) := by
  intro d
  induction d with
  | zero =>
    intro i st hi h
    refine Ev.succ ?_
    have c1 : ¬ (i : Int) < (w.length : Int) := by omega
    simp only [impl_ExpansionOf.l0, if_neg c1]
    exact Ev.pure (by rw [List.drop_of_length_le (by omega)]; rfl)
  | succ d ih =>
    intro i st hi h
    have hx := hl _ (rd_mem w i (by omega))
    have h1 := absI_pos hx.1
    have h2 := absI_bd (x := rd w (i : Int)) (b := (j : Int)) hx.2
    have wk := Aside0.mk (w64 (x := absI (rd w (i : Int)) - 1) (by omega) (by omega))
    have w1 : wrap64 ((i : Int) + 1) = ((i + 1 : Nat) : Int) := (w64 (by omega) (by omega)).trans (by omega)
    have c1 : (i : Int) < (w.length : Int) := by omega
    have c2 : 0 ≤ (i : Int) := by omega
    have next := ih (i + 1) (exStep st (rd w (i : Int))) (by omega) (exStep_sq h _)
    rw [← w1] at next
    rw [drop_rd w i (by omega), List.foldl_cons]
    refine Ev.succ ?_
    simp only [impl_ExpansionOf.l0, if_pos c1, if_pos c2, impl_size.eq (rd w (i : Int)) (by omega), Option.bind_some, wk.out]
    have := impl_ExpansionOf.ev1 w j hj st.1 st.2 h (i : Int) (rd w (i : Int)) hx _ next j 0 (by omega)
    simpa using this
theorem impl_ExpansionOf.ev (n : Int) (l : List Int) (j : Int) : Ev (fun k => impl_ExpansionOf.f k n l j) (expM n l j) := by
  simp only [impl_ExpansionOf.f]
  refine Ev.bind (impl_IsBraid.ev n l) ?_
  unfold expM
  by_cases h : isBraidB n l = true
  · obtain ⟨hn, hb, _⟩ := isBraidB_iff.1 h
    have w1 := Aside0.mk (w64 (x := n - 1) (by omega) (by omega))
    simp only [if_pos h, w1.out, impl_within.eq, Option.bind_some]
    by_cases hj : 1 ≤ j ∧ j ≤ n - 1
    · have e : inB j 1 (n - 1) = true := inB_iff.2 hj
      have w2 := Aside0.mk (w64 (x := n - 1 - j) (by omega) (by omega))
      simp only [e, if_true, if_pos hj, w2.out]
      refine Ev.bind (impl_isPure.ev n l h) ?_
      by_cases hp : pureB n l = true
      · have hpm : pureM n l = 0 := by rw [pureM, if_pos h, if_pos hp]
        have hcm : combM n l = (match combGo' (n - 1).toNat l [] with
          | some r => (r, 0)
          | none => ([], 3)) := by
          rw [combM, if_pos hpm]
          cases combGo' (n - 1).toNat l [] <;> rfl
        simp only [if_pos hp]
        refine Ev.bind (impl_combOf.ev n l hn hb (braid_letters h)) ?_
        cases ec : combGo' (n - 1).toNat l [] with
        | none =>
          rw [ec] at hcm
          simp only [hcm, combR']
          exact Ev.now _
        | some r =>
          rw [ec] at hcm
          have ht := comb_tooth h hj ec
          obtain ⟨m, hm⟩ : ∃ m : Nat, j = (m : Int) := ⟨j.toNat, by omega⟩
          have c1 : 0 ≤ n - 1 - j := by omega
          have c2 : n - 1 - j < (r.length : Int) := by omega
          simp only [hcm, combR', if_true]
          subst hm
          refine Ev.bind (impl_zeroRows.ev m (by omega)) ?_
          have c3 : 0 ≤ (m : Int) := by omega
          have c4 : m ≤ 35184372088832 := by omega
          simp only [if_pos c3, Int.toNat_natCast, if_pos c4, if_pos c1, if_pos c2, rdL1_eq]
          have := impl_ExpansionOf.ev0 (rdl r (n - 1 - (m : Int))) m (by omega) ht.2.1 ht.2.2 _ 0 _ (Nat.zero_add _) (zero_sq m)
          simpa [expW] using this
      · have hcm : (combM n l) = ([], 5) := by rw [combM, pureM, if_pos h, if_neg hp]; rfl
        simp only [if_neg hp, hcm]
        exact Ev.now _
    · have e : inB j 1 (n - 1) = false := inB_not.2 hj
      simp only [e, Bool.false_eq_true, if_false, if_neg hj]
      exact Ev.now _
  · simp only [if_neg h]
    exact Ev.now _

-- says For every braid-shaped input and every number the program's ExpansionOf returns what the reference's returns, keeps its arguments and shares no memory; no conditions.
-- row braid int
-- hand laws_markInt64SS
-- use LibExp


end Go.Proofs.Ytcbomfkimohlfaa.PureFnExactExpansionOf
