/- For all lists and numbers the program's MultiplyFree returns what the reference's returns, keeps its arguments and shares no memory; no conditions. -/
import Derived.Test.YtijafgikehlomaaPFnExactMultiplyFreex5
import Derived.Test.YtijafgikehlomaaLib
set_option linter.unusedVariables false
set_option linter.unusedSimpArgs false
set_option maxRecDepth 10000
namespace Go.Proofs.Ytijafgikehlomaa.PureFnExactMultiplyFree
open Go.RowKit Go.Proofs.Ytijafgikehlomaa.PFnExactMultiplyFree Go.Proofs.YtijafgikehlomaaW.PrintWords Go.Proofs.Ytijafgikehlomaa.Lib

/-! ### laws_toInt64S -/
theorem laws_toInt64S.ev0 (l : List Int) (hb : l.length ≤ 17592186044416) : ∀ (d i : Nat) (acc : List Int), i + d = l.length → acc.length = l.length →
    Ev (fun k => laws_toInt64S.l0 k l acc (i : Int)) (acc.take i ++ l.drop i) := by
  intro d
  induction d with
  | zero =>
    intro i acc hi ha
    refine Ev.succ ?_
    simp (disch := omega) only [laws_toInt64S.l0, if_neg]
    exact Ev.pure (by rw [List.take_of_length_le (by omega), List.drop_of_length_le (by omega), List.append_nil])
  | succ d ih =>
    intro i acc hi ha
    refine Ev.succ ?_
    simp (disch := omega) only [laws_toInt64S.l0, if_pos, w64]
    refine Ev.to (ih (i + 1) (acc.set i (rd l i)) (by omega) (by simpa using ha)) ?_
    rw [take_set_succ _ _ _ (by omega), drop_rd l i (by omega), List.append_assoc]; rfl
theorem laws_toInt64S.ev (l : List Int) (hb : l.length ≤ 17592186044416) : Ev (fun k => laws_toInt64S.f k l) l := by
  simp (disch := omega) only [laws_toInt64S.f, if_pos]
  refine Ev.to (laws_toInt64S.ev0 l hb l.length 0 (List.replicate l.length 0) (by omega) (by simp)) (by simp)

/-! ### laws_eqInt64S -/
theorem laws_eqInt64S.ev0 (l m : List Int) (hb : l.length ≤ 4611686018427387904) (hlm : l.length = m.length) : ∀ (d i : Nat), i + d = l.length →
    Ev (fun k => laws_eqInt64S.l0 k l m (i : Int)) (decide (l.drop i = m.drop i)) := by
  intro d
  induction d with
  | zero =>
    intro i hi
    refine Ev.succ ?_
    simp (disch := omega) only [laws_eqInt64S.l0, if_neg]
    exact Ev.pure (by rw [List.drop_of_length_le (by omega), List.drop_of_length_le (by omega)]; simp)
  | succ d ih =>
    intro i hi
    refine Ev.succ ?_
    simp (disch := omega) only [laws_eqInt64S.l0, if_pos, w64]
    rw [drop_rd l i (by omega), drop_rd m i (by omega)]
    by_cases h : rd l i = rd m i
    · simp only [if_pos h]
      refine Ev.to (ih (i + 1) (by omega)) (by simp [h])
    · simp only [if_neg h]
      exact Ev.pure (by simp [h])
theorem laws_eqInt64S.ev (l m : List Int) (hb : l.length ≤ 4611686018427387904) : Ev (fun k => laws_eqInt64S.f k l m) (decide (l = m)) := by
  by_cases h : l.length = m.length
  · simp (disch := omega) only [laws_eqInt64S.f, if_pos]
    exact Ev.to (laws_eqInt64S.ev0 l m hb h l.length 0 (by omega)) (by simp)
  · simp (disch := omega) only [laws_eqInt64S.f, if_neg]
    exact Ev.pure (by simp; intro e; exact h (by rw [e]))

/-! ### laws_markInt64S -/
theorem laws_markInt64S.ev0 (n : Nat) (hb : n ≤ 4611686018427387904) : ∀ (d i : Nat) (acc : List Int) (x : Int), i + d = n → acc.length = n → -4611686018427387904 ≤ x → x + d ≤ 4611686018427387904 →
    Ev (fun k => laws_markInt64S.l0 k acc x (i : Int)) (x + d, acc.take i ++ iota x d) := by
  intro d
  induction d with
  | zero =>
    intro i acc x hi ha h0 h1
    refine Ev.succ ?_
    simp (disch := omega) only [laws_markInt64S.l0, if_neg]
    exact Ev.pure (by rw [List.take_of_length_le (by omega)]; simp [iota])
  | succ d ih =>
    intro i acc x hi ha h0 h1
    refine Ev.succ ?_
    simp (disch := omega) only [laws_markInt64S.l0, if_pos, w64]
    refine Ev.to (ih (i + 1) (acc.set i x) (x + 1) (by omega) (by simpa using ha) (by omega) (by omega)) ?_
    rw [take_set_succ _ _ _ (by omega), List.append_assoc]
    exact Prod.ext (by simp; omega) rfl
theorem laws_markInt64S.ev (l : List Int) (x : Int) (h0 : 0 ≤ x) (h1 : x + l.length ≤ 4611686018427387904) : Ev (fun k => laws_markInt64S.f k l x) (x + l.length, iota x l.length) := by
  simp only [laws_markInt64S.f]
  exact Ev.to (laws_markInt64S.ev0 l.length (by omega) l.length 0 l x (by omega) rfl (by omega) h1) (by simp)

/-! ### laws_heldInt64S -/
theorem laws_heldInt64S.ev0 (x0 : Int) (n : Nat) (h0 : -4611686018427387904 ≤ x0) (hb : x0 + n ≤ 4611686018427387904) (hn : n ≤ 4611686018427387904) : ∀ (d i : Nat), i + d = n →
    Ev (fun k => laws_heldInt64S.l0 k (iota x0 n) (x0 + i) (i : Int)) (x0 + n) := by
  intro d
  have hl := iota_length x0 n
  induction d with
  | zero =>
    intro i hi
    refine Ev.succ ?_
    simp (disch := omega) only [laws_heldInt64S.l0, if_neg]
    exact Ev.pure (by omega)
  | succ d ih =>
    intro i hi
    refine Ev.succ ?_
    have e := rd_iota n i x0 (by omega)
    simp (disch := omega) only [laws_heldInt64S.l0, if_pos, w64]
    refine Ev.to (Ev.congr (fun k => ?_) (ih (i + 1) (by omega))) rfl
    congr 1
    omega
theorem laws_heldInt64S.ev (x : Int) (n : Nat) (h0 : -4611686018427387904 ≤ x) (h1 : x + n ≤ 4611686018427387904) (hn : n ≤ 4611686018427387904) : Ev (fun k => laws_heldInt64S.f k (iota x n) x) (x + n) := by
  simp only [laws_heldInt64S.f]
  refine Ev.congr (fun k => ?_) (laws_heldInt64S.ev0 x n h0 h1 hn n 0 (by omega))
  simp

/-! ### spec_l01In -/
theorem spec_l01In.eq (a lo hi : Int) : spec_l01In.f a lo hi = some (inB a lo hi) := by
  unfold spec_l01In.f inB
  by_cases h : lo ≤ a <;> simp [h]

/-! ### spec_l08Is -/
theorem spec_l08Is.ev0 (n : Int) (l : List Int) (h1 : 1 ≤ n) (h8 : n ≤ 8) (hb : l.length ≤ 4000) : ∀ (d i : Nat), i + d = l.length → (0 < i → genB n (rd l ((i : Int) - 1)) = true) →
    Ev (fun k => spec_l08Is.l0 k l n (i : Int)) (freeFrom n (if i = 0 then 0 else rd l ((i : Int) - 1)) (l.drop i)) := by
  intro d
  induction d with
  | zero =>
    intro i hi hp
    refine Ev.succ ?_
    simp (disch := omega) only [spec_l08Is.l0, if_neg]
    exact Ev.pure (by rw [List.drop_of_length_le (by omega)]; rfl)
  | succ d ih =>
    intro i hi hp
    refine Ev.succ ?_
    have hw2 : wrap64 ((i : Int) + 1) = ((i + 1 : Nat) : Int) := w64 (by omega) (by omega)
    have hnx : ((i + 1 : Nat) : Int) - 1 = (i : Int) := by omega
    have hwn0 : wrap64 (-n) = -n := w64 (by omega) (by omega)
    simp (disch := omega) only [spec_l08Is.l0, if_pos, hw2, hwn0, spec_l01In.eq, Option.bind_some]
    rw [drop_rd l i (by omega)]
    simp only [freeFrom, genB]
    by_cases hz : rd l (i : Int) = 0
    · simp only [if_pos hz]
      exact Ev.pure (by simp [hz])
    simp only [if_neg hz, hz, ne_eq, not_false_eq_true, decide_true, Bool.true_and]
    cases hg : inB (rd l i) (-n) n with
    | false => exact Ev.pure (by simp)
    | true =>
      have hn := inB_iff.1 hg
      have ih' := ih (i + 1) (by omega) (fun _ => by rw [hnx]; exact genB_iff.2 ⟨hz, hn⟩)
      rw [if_neg (by omega), hnx] at ih'
      by_cases h0 : i = 0
      · subst h0
        simp (disch := omega) only [if_true, if_pos, if_neg, Bool.true_and]
        refine Ev.to ih' ?_
        rw [show decide (¬ (0 : Int) = -rd l ((0 : Nat) : Int)) = true from decide_eq_true (by omega), Bool.true_and]
      · have hwm : wrap64 ((i : Int) - 1) = (i : Int) - 1 := w64 (by omega) (by omega)
        have hpn := genB_iff.1 (hp (by omega))
        have hwn : wrap64 (-(rd l ((i : Int) - 1))) = -(rd l ((i : Int) - 1)) := w64 (by omega) (by omega)
        simp (disch := omega) only [if_true, if_pos, if_neg, hwm, hwn, Bool.true_and]
        by_cases hq : rd l (i : Int) = -rd l ((i : Int) - 1)
        · simp only [if_pos hq]
          exact Ev.pure (by simp; omega)
        · simp only [if_neg hq]
          refine Ev.to ih' ?_
          rw [show decide (¬ rd l ((i : Int) - 1) = -rd l (i : Int)) = true from decide_eq_true (by omega), Bool.true_and]
theorem spec_l08Is.ev (n : Int) (l : List Int) : Ev (fun k => spec_l08Is.f k l n) (isFreeB n l) := by
  simp only [spec_l08Is.f, spec_l01In.eq, Option.bind_some]
  unfold isFreeB
  cases hn : inB n 1 8 with
  | false =>
    refine Ev.succ ?_
    simp [spec_l08Is.j0]
    exact Ev.now _
  | true =>
    obtain ⟨h1, h8⟩ := inB_iff.1 hn
    refine Ev.succ ?_
    simp only [if_true, spec_l08Is.j0, Bool.true_and]
    by_cases hl : l.length ≤ 4000
    · have : ¬ ((l.length : Int) > 4000) := by omega
      simp only [this, decide_false, Bool.false_eq_true, if_false, hl, decide_true, Bool.true_and]
      exact Ev.to (spec_l08Is.ev0 n l h1 h8 hl l.length 0 (by omega) (by omega)) (by simp)
    · have : ((l.length : Int) > 4000) := by omega
      simp only [this, decide_true, if_true, hl, decide_false, Bool.false_and]
      exact Ev.now _

/-! ### spec_l01Own -/
theorem spec_l01Own.eq (l : List Int) (h : l.length ≤ 1099511627776) : spec_l01Own.f l = some l := by
  simp only [spec_l01Own.f, Option.bind_some, List.nil_append, List.length_nil]
  rw [if_pos (by omega)]

/-! ### spec_l08Join -/
theorem spec_l08Join.ev0 (l : List Int) (hs : Small l) (hb : l.length ≤ 1099511627776) : ∀ (d i : Nat) (acc : List Int), i + d = l.length → acc.length + d ≤ 4398046511104 →
    Ev (fun k => spec_l08Join.l0 k l acc (i : Int)) (pushAll acc (l.drop i)) := by
  intro d
  induction d with
  | zero =>
    intro i acc hi ha
    refine Ev.succ ?_
    simp (disch := omega) only [spec_l08Join.l0, if_neg]
    exact Ev.pure (by rw [List.drop_of_length_le (by omega)]; rfl)
  | succ d ih =>
    intro i acc hi ha
    refine Ev.succ ?_
    have hx := hs.rd i (by omega)
    have hw2 : wrap64 ((i : Int) + 1) = ((i + 1 : Nat) : Int) := w64 (by omega) (by omega)
    have hwn : wrap64 (-(rd l (i : Int))) = -(rd l (i : Int)) := w64 (by omega) (by omega)
    have ih' := fun acc h => ih (i + 1) acc (by omega) h
    rw [drop_rd l i (by omega)]
    simp only [pushAll, List.foldl_cons, push1] at ih' ⊢
    by_cases h0 : acc.length = 0
    · have e : acc = [] := List.eq_nil_of_length_eq_zero h0
      subst e
      simp (disch := omega) only [spec_l08Join.l0, if_pos, if_neg, hw2, List.length_nil]
      exact ih' [rd l i] (by simp; omega)
    · have hwa : wrap64 ((acc.length : Int) - 1) = (acc.length : Int) - 1 := w64 (by omega) (by omega)
      simp (disch := omega) only [spec_l08Join.l0, if_pos, if_neg, hw2, hwa, hwn]
      rw [last_rd acc (by omega)]
      by_cases hq : rd acc ((acc.length : Int) - 1) = -rd l (i : Int)
      · simp only [if_pos hq, Option.some.injEq]
        rw [show (((acc.length : Int) - 1).toNat) = acc.length - 1 from by omega, take_last]
        exact ih' acc.dropLast (by simp; omega)
      · simp only [if_neg hq, Option.some.injEq]
        exact ih' (acc ++ [rd l i]) (by simp; omega)
theorem spec_l08Join.ev (a l : List Int) (hs : Small l) (ha : a.length ≤ 1099511627776) (hb : l.length ≤ 1099511627776) : Ev (fun k => spec_l08Join.f k a l) (pushAll a l) := by
  simp (disch := omega) only [spec_l08Join.f, spec_l01Own.eq, Option.bind_some]
  exact Ev.to (spec_l08Join.ev0 l hs hb l.length 0 a (by omega) (by omega)) (by simp)

/-! ### spec_MultiplyFree -/
theorem spec_MultiplyFree.ev (a b : List Int) (n : Int) : Ev (fun k => spec_MultiplyFree.f k a b n) (mulFreeM a b n) := by
  simp only [spec_MultiplyFree.f]
  refine Ev.bind (spec_l08Is.ev n a) ?_
  unfold mulFreeM
  by_cases h : isFreeB n a = true
  · simp only [if_pos h]
    refine Ev.bind (spec_l08Is.ev n b) ?_
    refine Ev.succ ?_
    by_cases h' : isFreeB n b = true
    · have e := spec_l08Join.ev a b (Small.of_free h') (by have := (isFreeB_iff.1 h).2.1; omega) (by have := (isFreeB_iff.1 h').2.1; omega)
      simp only [h, h', spec_MultiplyFree.j0, Bool.not_true, Bool.false_eq_true, if_false, and_self, if_true]
      refine Ev.bind e ?_
      split <;> exact Ev.now _
    · simp only [h, h', spec_MultiplyFree.j0, Bool.not_false, if_true, and_false, if_false, Bool.false_eq_true]
      exact Ev.now _
  · simp only [if_neg h]
    refine Ev.succ ?_
    simp only [h, spec_MultiplyFree.j0, if_true, false_and, if_false, Bool.false_eq_true]
    exact Ev.now _

/-! ### impl_within -/
theorem impl_within.eq (a lo hi : Int) : impl_within.f a lo hi = some (inB a lo hi) := by
  unfold impl_within.f inB
  by_cases h : lo ≤ a <;> simp [h]

/-! ### impl_isCount -/
theorem impl_isCount.eq (a : Int) : impl_isCount.f a = some (inB a 1 8) := by simp only [impl_isCount.f, impl_within.eq, Option.bind_some]

/-! ### impl_isGenerator -/
theorem impl_isGenerator.eq (x n : Int) (h1 : 1 ≤ n) (h8 : n ≤ 8) : impl_isGenerator.f x n = some (genB n x) := by
  simp (disch := omega) only [impl_isGenerator.f, impl_within.eq, Option.bind_some, w64]
  unfold genB
  split <;> simp_all

/-! ### impl_IsFreeWord -/
theorem impl_IsFreeWord.ev0 (n : Int) (l : List Int) (h1 : 1 ≤ n) (h8 : n ≤ 8) (hb : l.length ≤ 4000) : ∀ (d i : Nat), i + d = l.length → (0 < i → genB n (rd l ((i : Int) - 1)) = true) →
    Ev (fun k => impl_IsFreeWord.l0 k l n l (l.length : Int) (i : Int)) (freeFrom n (if i = 0 then 0 else rd l ((i : Int) - 1)) (l.drop i)) := by
  intro d
  induction d with
  | zero =>
    intro i hi hp
    refine Ev.succ ?_
    simp (disch := omega) only [impl_IsFreeWord.l0, if_neg]
    exact Ev.pure (by rw [List.drop_of_length_le (by omega)]; rfl)
  | succ d ih =>
    intro i hi hp
    refine Ev.succ ?_
    have hw2 : wrap64 ((i : Int) + 1) = ((i + 1 : Nat) : Int) := w64 (by omega) (by omega)
    have hnx : ((i + 1 : Nat) : Int) - 1 = (i : Int) := by omega
    simp (disch := omega) only [impl_IsFreeWord.l0, if_pos, hw2, impl_isGenerator.eq, Option.bind_some]
    rw [drop_rd l i (by omega)]
    simp only [freeFrom]
    cases hg : genB n (rd l i) with
    | false => exact Ev.pure (by simp)
    | true =>
      have hn := genB_iff.1 hg
      have ih' := ih (i + 1) (by omega) (fun _ => by rw [hnx]; exact hg)
      rw [if_neg (by omega), hnx] at ih'
      by_cases h0 : i = 0
      · subst h0
        simp (disch := omega) only [if_true, if_pos, if_neg, Bool.true_and]
        refine Ev.to ih' ?_
        rw [show decide ((0 : Int) ≠ -rd l ((0 : Nat) : Int)) = true from decide_eq_true (by omega), Bool.true_and]
      · have hwm : wrap64 ((i : Int) - 1) = (i : Int) - 1 := w64 (by omega) (by omega)
        have hwn : wrap64 (-(rd l (i : Int))) = -(rd l (i : Int)) := w64 (by omega) (by omega)
        simp (disch := omega) only [if_true, if_pos, if_neg, hwm, hwn, Bool.true_and]
        by_cases hq : rd l ((i : Int) - 1) = -rd l (i : Int)
        · simp only [if_pos hq]
          exact Ev.pure (by simp [hq])
        · simp only [if_neg hq]
          exact Ev.to ih' (by simp [hq])
theorem impl_IsFreeWord.ev (n : Int) (l : List Int) : Ev (fun k => impl_IsFreeWord.f k l n) (isFreeB n l) := by
  simp only [impl_IsFreeWord.f, impl_isCount.eq, Option.bind_some]
  unfold isFreeB
  cases hn : inB n 1 8 with
  | false =>
    refine Ev.succ ?_
    simp [impl_IsFreeWord.j0]
    exact Ev.now _
  | true =>
    obtain ⟨h1, h8⟩ := inB_iff.1 hn
    refine Ev.succ ?_
    simp only [if_true, impl_IsFreeWord.j0, Bool.true_and]
    by_cases hl : l.length ≤ 4000
    · have : ¬ ((l.length : Int) > 4000) := by omega
      simp only [this, decide_false, Bool.false_eq_true, if_false, hl, decide_true, Bool.true_and]
      exact Ev.to (impl_IsFreeWord.ev0 n l h1 h8 hl l.length 0 (by omega) (by omega)) (by simp)
    · have : ((l.length : Int) > 4000) := by omega
      simp only [this, decide_true, if_true, hl, decide_false, Bool.false_and]
      exact Ev.now _

/-! ### impl_freed -/
theorem impl_freed.ev0 (l : List Int) (hs : Small l) (hb : l.length ≤ 1099511627776) : ∀ (d i : Nat) (acc : List Int), i + d = l.length → acc.length + d ≤ 4398046511104 →
    Ev (fun k => impl_freed.l0 k acc l (l.length : Int) (i : Int)) (pushAll acc (l.drop i)) := by
  intro d
  induction d with
  | zero =>
    intro i acc hi ha
    refine Ev.succ ?_
    simp (disch := omega) only [impl_freed.l0, if_neg]
    exact Ev.pure (by rw [List.drop_of_length_le (by omega)]; rfl)
  | succ d ih =>
    intro i acc hi ha
    refine Ev.succ ?_
    have hx := hs.rd i (by omega)
    have hw2 : wrap64 ((i : Int) + 1) = ((i + 1 : Nat) : Int) := w64 (by omega) (by omega)
    have hwn : wrap64 (-(rd l (i : Int))) = -(rd l (i : Int)) := w64 (by omega) (by omega)
    have ih' := fun acc h => ih (i + 1) acc (by omega) h
    rw [drop_rd l i (by omega)]
    simp only [pushAll, List.foldl_cons, push1] at ih' ⊢
    by_cases h0 : acc.length = 0
    · have e : acc = [] := List.eq_nil_of_length_eq_zero h0
      subst e
      simp (disch := omega) only [impl_freed.l0, if_pos, if_neg, hw2, List.length_nil]
      exact ih' [rd l i] (by simp; omega)
    · have hwa : wrap64 ((acc.length : Int) - 1) = (acc.length : Int) - 1 := w64 (by omega) (by omega)
      simp (disch := omega) only [impl_freed.l0, if_pos, if_neg, hw2, hwa, hwn]
      rw [last_rd acc (by omega)]
      by_cases hq : rd acc ((acc.length : Int) - 1) = -rd l (i : Int)
      · simp only [if_pos hq, Option.some.injEq]
        rw [show (((acc.length : Int) - 1).toNat) = acc.length - 1 from by omega, take_last]
        exact ih' acc.dropLast (by simp; omega)
      · simp only [if_neg hq, Option.some.injEq]
        exact ih' (acc ++ [rd l i]) (by simp; omega)
theorem impl_freed.ev (a l : List Int) (hs : Small l) (ha : a.length ≤ 1099511627776) (hb : l.length ≤ 1099511627776) : Ev (fun k => impl_freed.f k a l) (pushAll a l) := by
  simp only [impl_freed.f]
  exact Ev.to (impl_freed.ev0 l hs hb l.length 0 a (by omega) (by omega)) (by simp)

/-! ### impl_copyOf -/
theorem impl_copyOf.eq (l : List Int) (h : l.length ≤ 1099511627776) : impl_copyOf.f l = some l := by
  simp only [impl_copyOf.f, Option.bind_some, List.nil_append, List.length_nil]
  rw [if_pos (by omega)]

/-! ### impl_MultiplyFree -/
theorem impl_MultiplyFree.ev (a b : List Int) (n : Int) : Ev (fun k => impl_MultiplyFree.f k a b n) (mulFreeM a b n) := by
  simp only [impl_MultiplyFree.f]
  refine Ev.bind (impl_IsFreeWord.ev n a) ?_
  unfold mulFreeM
  by_cases h : isFreeB n a = true
  · simp only [if_pos h]
    refine Ev.bind (impl_IsFreeWord.ev n b) ?_
    refine Ev.succ ?_
    by_cases h' : isFreeB n b = true
    · have e := impl_freed.ev a b (Small.of_free h') (by have := (isFreeB_iff.1 h).2.1; omega) (by have := (isFreeB_iff.1 h').2.1; omega)
      have e' := impl_copyOf.eq a (by have := (isFreeB_iff.1 h).2.1; omega)
      simp only [h, h', impl_MultiplyFree.j0, Bool.not_true, Bool.false_eq_true, if_false, and_self, if_true, e', Option.bind_some]
      refine Ev.bind e ?_
      split <;> exact Ev.now _
    · simp only [h, h', impl_MultiplyFree.j0, Bool.not_false, if_true, and_false, if_false, Bool.false_eq_true]
      exact Ev.now _
  · simp only [if_neg h]
    refine Ev.succ ?_
    simp only [h, impl_MultiplyFree.j0, if_true, false_and, if_false, Bool.false_eq_true]
    exact Ev.now _

-- says For all lists and numbers the program's MultiplyFree returns what the reference's returns, keeps its arguments and shares no memory; no conditions.
-- row ints ints int
theorem law (l m : List Int) (n : Int) (hl : l.length ≤ maxLen) (hw : ∀ x ∈ l, (Lit.int .i64 x).wf = true) (hm : m.length ≤ maxLen) (hw' : ∀ x ∈ m, (Lit.int .i64 x).wf = true) (hn : (Lit.int .i64 n).wf = true) : ∃ k, laws_FnExactMultiplyFree.f k l m n = some true := by
  by_cases hz : (l.length : Int) > 1048576
  · exact ⟨0, by simp only [laws_FnExactMultiplyFree.f, if_pos hz]⟩
  by_cases hz' : (m.length : Int) > 1048576
  · exact ⟨0, by simp only [laws_FnExactMultiplyFree.f, if_neg hz, if_pos hz']⟩
  obtain ⟨r, c, hr, hrl⟩ : ∃ r c, mulFreeM l m n = (r, c) ∧ r.length ≤ 4000 := ⟨_, _, rfl, mulFreeM_length l m n⟩
  have h1 := laws_toInt64S.ev l (by omega)
  have h1' := laws_toInt64S.ev m (by omega)
  have h2 := spec_MultiplyFree.ev l m n
  have h3 := impl_MultiplyFree.ev l m n
  rw [hr] at h2 h3
  have h4 := laws_eqInt64S.ev l l (by omega)
  have h4' := laws_eqInt64S.ev m m (by omega)
  have h5 := laws_eqInt64S.ev r r (by omega)
  have h6 := laws_markInt64S.ev l 1 (by omega) (by omega)
  have h6' := laws_markInt64S.ev m (1 + l.length) (by omega) (by omega)
  have h7 := laws_markInt64S.ev r 1 (by omega) (by omega)
  have h8 := laws_heldInt64S.ev 1 r.length (by omega) (by omega) (by omega)
  have g1 : ¬ (1 + (l.length : Int) + (m.length : Int) < 0) := by omega
  have g2 : ¬ (1 + (r.length : Int) < 0) := by omega
  refine Ev.rounds ?_
  (try simp only [laws_FnExactMultiplyFree.f, hz, hz', g1, g2])
  repeat (first | (with_reducible refine Ev.bind h1 ?_; (try dsimp only)) | (with_reducible refine Ev.bind h1' ?_; (try dsimp only)) | (with_reducible refine Ev.bind h2 ?_; (try dsimp only)) | (with_reducible refine Ev.bind h3 ?_; (try dsimp only)) | (with_reducible refine Ev.bind h4 ?_; (try dsimp only)) | (with_reducible refine Ev.bind h4' ?_; (try dsimp only)) | (with_reducible refine Ev.bind h5 ?_; (try dsimp only)) | (with_reducible refine Ev.bind h6 ?_; (try dsimp only)) | (with_reducible refine Ev.bind h6' ?_; (try dsimp only)) | (with_reducible refine Ev.bind h7 ?_; (try dsimp only)) | (with_reducible refine Ev.bind h8 ?_; (try dsimp only)) | (simp only [if_true, if_false, eq_self, decide_true, decide_false, Bool.and_self, Bool.true_and, Bool.and_true, bne_self_eq_false, Bool.not_true, Bool.not_false, Bool.false_eq_true, reduceCtorEq, iota_length, hz, hz', g1, g2]))
  refine Ev.succ ?_
  simp only [laws_FnExactMultiplyFree.j0]
  repeat (first | (with_reducible refine Ev.bind h1 ?_; (try dsimp only)) | (with_reducible refine Ev.bind h1' ?_; (try dsimp only)) | (with_reducible refine Ev.bind h2 ?_; (try dsimp only)) | (with_reducible refine Ev.bind h3 ?_; (try dsimp only)) | (with_reducible refine Ev.bind h4 ?_; (try dsimp only)) | (with_reducible refine Ev.bind h4' ?_; (try dsimp only)) | (with_reducible refine Ev.bind h5 ?_; (try dsimp only)) | (with_reducible refine Ev.bind h6 ?_; (try dsimp only)) | (with_reducible refine Ev.bind h6' ?_; (try dsimp only)) | (with_reducible refine Ev.bind h7 ?_; (try dsimp only)) | (with_reducible refine Ev.bind h8 ?_; (try dsimp only)) | (simp only [if_true, if_false, eq_self, decide_true, decide_false, Bool.and_self, Bool.true_and, Bool.and_true, bne_self_eq_false, Bool.not_true, Bool.not_false, Bool.false_eq_true, reduceCtorEq, iota_length, hz, hz', g1, g2]))
  refine Ev.succ ?_
  simp only [laws_FnExactMultiplyFree.j1]
  repeat (first | (with_reducible refine Ev.bind h1 ?_; (try dsimp only)) | (with_reducible refine Ev.bind h1' ?_; (try dsimp only)) | (with_reducible refine Ev.bind h2 ?_; (try dsimp only)) | (with_reducible refine Ev.bind h3 ?_; (try dsimp only)) | (with_reducible refine Ev.bind h4 ?_; (try dsimp only)) | (with_reducible refine Ev.bind h4' ?_; (try dsimp only)) | (with_reducible refine Ev.bind h5 ?_; (try dsimp only)) | (with_reducible refine Ev.bind h6 ?_; (try dsimp only)) | (with_reducible refine Ev.bind h6' ?_; (try dsimp only)) | (with_reducible refine Ev.bind h7 ?_; (try dsimp only)) | (with_reducible refine Ev.bind h8 ?_; (try dsimp only)) | (simp only [if_true, if_false, eq_self, decide_true, decide_false, Bool.and_self, Bool.true_and, Bool.and_true, bne_self_eq_false, Bool.not_true, Bool.not_false, Bool.false_eq_true, reduceCtorEq, iota_length, hz, hz', g1, g2]))
  refine Ev.succ ?_
  simp only [laws_FnExactMultiplyFree.j2]
  repeat (first | (with_reducible refine Ev.bind h1 ?_; (try dsimp only)) | (with_reducible refine Ev.bind h1' ?_; (try dsimp only)) | (with_reducible refine Ev.bind h2 ?_; (try dsimp only)) | (with_reducible refine Ev.bind h3 ?_; (try dsimp only)) | (with_reducible refine Ev.bind h4 ?_; (try dsimp only)) | (with_reducible refine Ev.bind h4' ?_; (try dsimp only)) | (with_reducible refine Ev.bind h5 ?_; (try dsimp only)) | (with_reducible refine Ev.bind h6 ?_; (try dsimp only)) | (with_reducible refine Ev.bind h6' ?_; (try dsimp only)) | (with_reducible refine Ev.bind h7 ?_; (try dsimp only)) | (with_reducible refine Ev.bind h8 ?_; (try dsimp only)) | (simp only [if_true, if_false, eq_self, decide_true, decide_false, Bool.and_self, Bool.true_and, Bool.and_true, bne_self_eq_false, Bool.not_true, Bool.not_false, Bool.false_eq_true, reduceCtorEq, iota_length, hz, hz', g1, g2]))
  exact Ev.now _

end Go.Proofs.Ytijafgikehlomaa.PureFnExactMultiplyFree
