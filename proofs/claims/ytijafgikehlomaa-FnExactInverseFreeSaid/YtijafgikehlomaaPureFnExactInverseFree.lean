/- For every list and every number the program's InverseFree returns what the reference's returns, keeps its argument and shares no memory; no conditions. -/
import Derived.Test.YtijafgikehlomaaPFnExactInverseFreex5
import Derived.Test.YtijafgikehlomaaLib
set_option linter.unusedVariables false
set_option linter.unusedSimpArgs false
set_option maxRecDepth 10000
namespace Go.Proofs.Ytijafgikehlomaa.PureFnExactInverseFree
open Go.RowKit Go.Proofs.Ytijafgikehlomaa.PFnExactInverseFree Go.Proofs.YtijafgikehlomaaW.PrintWords Go.Proofs.Ytijafgikehlomaa.Lib

/-! ### spec_l01In -/
theorem spec_l01In.eq (a lo hi : Int) : spec_l01In.f a lo hi = some (inB a lo hi) := by
  unfold spec_l01In.f inB
  by_cases h : lo ≤ a <;> simp [h]

/-! ### spec_l08Is -/
theorem spec_l08Is.ev0 (n : Int) (l : List Int) (h1 : 1 ≤ n) (h8 : n ≤ 8) (hb : l.length ≤ 4000) : ∀ (d i : Nat), i + d = l.length → (0 < i → genB n (rd l ((i : Int) - 1)) = true) →
    Ev (fun k => spec_l08Is.l0 k l n (i : Int)) (freeFrom n (if i = 0 then 0 else rd l ((i : Int) - 1)) (l.drop i)) := by
  intro d
  induction d with
  | zero =>
    intro i hi hp
    refine Ev.succ ?_
    simp (disch := omega) only [spec_l08Is.l0, if_neg]
    exact Ev.pure (by rw [List.drop_of_length_le (by omega)]; rfl)
  | succ d ih =>
    intro i hi hp
    refine Ev.succ ?_
    have hw2 : wrap64 ((i : Int) + 1) = ((i + 1 : Nat) : Int) := w64 (by omega) (by omega)
    have hnx : ((i + 1 : Nat) : Int) - 1 = (i : Int) := by omega
    have hwn0 : wrap64 (-n) = -n := w64 (by omega) (by omega)
    simp (disch := omega) only [spec_l08Is.l0, if_pos, hw2, hwn0, spec_l01In.eq, Option.bind_some]
    rw [drop_rd l i (by omega)]
    simp only [freeFrom, genB]
    by_cases hz : rd l (i : Int) = 0
    · simp only [if_pos hz]
      exact Ev.pure (by simp [hz])
    simp only [if_neg hz, hz, ne_eq, not_false_eq_true, decide_true, Bool.true_and]
    cases hg : inB (rd l i) (-n) n with
    | false => exact Ev.pure (by simp)
    | true =>
      have hn := inB_iff.1 hg
      have ih' := ih (i + 1) (by omega) (fun _ => by rw [hnx]; exact genB_iff.2 ⟨hz, hn⟩)
      rw [if_neg (by omega), hnx] at ih'
      by_cases h0 : i = 0
      · subst h0
        simp (disch := omega) only [if_true, if_pos, if_neg, Bool.true_and]
        refine Ev.to ih' ?_
        rw [show decide (¬ (0 : Int) = -rd l ((0 : Nat) : Int)) = true from decide_eq_true (by omega), Bool.true_and]
      · have hwm : wrap64 ((i : Int) - 1) = (i : Int) - 1 := w64 (by omega) (by omega)
        have hpn := genB_iff.1 (hp (by omega))
        have hwn : wrap64 (-(rd l ((i : Int) - 1))) = -(rd l ((i : Int) - 1)) := w64 (by omega) (by omega)
        simp (disch := omega) only [if_true, if_pos, if_neg, hwm, hwn, Bool.true_and]
        by_cases hq : rd l (i : Int) = -rd l ((i : Int) - 1)
        · simp only [if_pos hq]
          exact Ev.pure (by simp; omega)
        · simp only [if_neg hq]
          refine Ev.to ih' ?_
          rw [show decide (¬ rd l ((i : Int) - 1) = -rd l (i : Int)) = true from decide_eq_true (by omega), Bool.true_and]
theorem spec_l08Is.ev (n : Int) (l : List Int) : Ev (fun k => spec_l08Is.f k l n) (isFreeB n l) := by
  simp only [spec_l08Is.f, spec_l01In.eq, Option.bind_some]
  unfold isFreeB
  cases hn : inB n 1 8 with
  | false =>
    refine Ev.succ ?_
    simp [spec_l08Is.j0]
    exact Ev.now _
  | true =>
    obtain ⟨h1, h8⟩ := inB_iff.1 hn
    refine Ev.succ ?_
    simp only [if_true, spec_l08Is.j0, Bool.true_and]
    by_cases hl : l.length ≤ 4000
    · have : ¬ ((l.length : Int) > 4000) := by omega
      simp only [this, decide_false, Bool.false_eq_true, if_false, hl, decide_true, Bool.true_and]
      exact Ev.to (spec_l08Is.ev0 n l h1 h8 hl l.length 0 (by omega) (by omega)) (by simp)
    · have : ((l.length : Int) > 4000) := by omega
      simp only [this, decide_true, if_true, hl, decide_false, Bool.false_and]
      exact Ev.now _

/-! ### spec_l08Back -/
theorem spec_l08Back.ev0 (l : List Int) (hs : Small l) (hb : l.length ≤ 1099511627776) : ∀ (d : Nat) (acc : List Int), d ≤ l.length → acc.length + d ≤ 1099511627776 →
    Ev (fun k => spec_l08Back.l0 k l acc ((d : Int) - 1)) (acc ++ back (l.take d)) := by
  intro d
  induction d with
  | zero =>
    intro acc hd ha
    refine Ev.succ ?_
    simp (disch := omega) only [spec_l08Back.l0, if_neg]
    exact Ev.pure (by simp [back])
  | succ d ih =>
    intro acc hd ha
    refine Ev.succ ?_
    have hx := hs.rd d (by omega)
    have e : ((d + 1 : Nat) : Int) - 1 = (d : Int) := by omega
    rw [e]
    simp (disch := omega) only [spec_l08Back.l0, if_pos, w64]
    refine Ev.to (ih (acc ++ [-rd l (d : Int)]) (by omega) (by simp; omega)) ?_
    rw [take_rd l d (by omega), back_snoc]
    simp
theorem spec_l08Back.ev (l : List Int) (hs : Small l) (hb : l.length ≤ 1099511627776) : Ev (fun k => spec_l08Back.f k l) (back l) := by
  have e : wrap64 ((l.length : Int) - 1) = (l.length : Int) - 1 := w64 (by omega) (by omega)
  simp only [spec_l08Back.f, e]
  exact Ev.to (spec_l08Back.ev0 l hs hb l.length [] (by omega) (by simpa using hb)) (by simp)

/-! ### spec_InverseFree -/
theorem spec_InverseFree.ev (l : List Int) (n : Int) : Ev (fun k => spec_InverseFree.f k l n) (if isFreeB n l = true then (back l, 0) else ([], 1)) := by
  simp only [spec_InverseFree.f]
  refine Ev.bind (spec_l08Is.ev n l) ?_
  by_cases h : isFreeB n l = true
  · simp only [if_pos h]
    exact Ev.bind (spec_l08Back.ev l (Small.of_free h) (by have := (isFreeB_iff.1 h).2.1; omega)) (Ev.now _)
  · simp only [if_neg h]
    exact Ev.now _

/-! ### laws_toInt64S -/
theorem laws_toInt64S.ev0 (l : List Int) (hb : l.length ≤ 17592186044416) : ∀ (d i : Nat) (acc : List Int), i + d = l.length → acc.length = l.length →
    Ev (fun k => laws_toInt64S.l0 k l acc (i : Int)) (acc.take i ++ l.drop i) := by
  intro d
  induction d with
  | zero =>
    intro i acc hi ha
    refine Ev.succ ?_
    simp (disch := omega) only [laws_toInt64S.l0, if_neg]
    exact Ev.pure (by rw [List.take_of_length_le (by omega), List.drop_of_length_le (by omega), List.append_nil])
  | succ d ih =>
    intro i acc hi ha
    refine Ev.succ ?_
    simp (disch := omega) only [laws_toInt64S.l0, if_pos, w64]
    refine Ev.to (ih (i + 1) (acc.set i (rd l i)) (by omega) (by simpa using ha)) ?_
    rw [take_set_succ _ _ _ (by omega), drop_rd l i (by omega), List.append_assoc]; rfl
theorem laws_toInt64S.ev (l : List Int) (hb : l.length ≤ 17592186044416) : Ev (fun k => laws_toInt64S.f k l) l := by
  simp (disch := omega) only [laws_toInt64S.f, if_pos]
  refine Ev.to (laws_toInt64S.ev0 l hb l.length 0 (List.replicate l.length 0) (by omega) (by simp)) (by simp)

/-! ### impl_within -/
theorem impl_within.eq (a lo hi : Int) : impl_within.f a lo hi = some (inB a lo hi) := by
  unfold impl_within.f inB
  by_cases h : lo ≤ a <;> simp [h]

/-! ### impl_isCount -/
theorem impl_isCount.eq (a : Int) : impl_isCount.f a = some (inB a 1 8) := by simp only [impl_isCount.f, impl_within.eq, Option.bind_some]

/-! ### impl_isGenerator -/
theorem impl_isGenerator.eq (x n : Int) (h1 : 1 ≤ n) (h8 : n ≤ 8) : impl_isGenerator.f x n = some (genB n x) := by
  simp (disch := omega) only [impl_isGenerator.f, impl_within.eq, Option.bind_some, w64]
  unfold genB
  split <;> simp_all

/-! ### impl_IsFreeWord -/
theorem impl_IsFreeWord.ev0 (n : Int) (l : List Int) (h1 : 1 ≤ n) (h8 : n ≤ 8) (hb : l.length ≤ 4000) : ∀ (d i : Nat), i + d = l.length → (0 < i → genB n (rd l ((i : Int) - 1)) = true) →
    Ev (fun k => impl_IsFreeWord.l0 k l n l (l.length : Int) (i : Int)) (freeFrom n (if i = 0 then 0 else rd l ((i : Int) - 1)) (l.drop i)) := by
  intro d
  induction d with
  | zero =>
    intro i hi hp
    refine Ev.succ ?_
    simp (disch := omega) only [impl_IsFreeWord.l0, if_neg]
    exact Ev.pure (by rw [List.drop_of_length_le (by omega)]; rfl)
  | succ d ih =>
    intro i hi hp
    refine Ev.succ ?_
    have hw2 : wrap64 ((i : Int) + 1) = ((i + 1 : Nat) : Int) := w64 (by omega) (by omega)
    have hnx : ((i + 1 : Nat) : Int) - 1 = (i : Int) := by omega
    simp (disch := omega) only [impl_IsFreeWord.l0, if_pos, hw2, impl_isGenerator.eq, Option.bind_some]
    rw [drop_rd l i (by omega)]
    simp only [freeFrom]
    cases hg : genB n (rd l i) with
    | false => exact Ev.pure (by simp)
    | true =>
      have hn := genB_iff.1 hg
      have ih' := ih (i + 1) (by omega) (fun _ => by rw [hnx]; exact hg)
      rw [if_neg (by omega), hnx] at ih'
      by_cases h0 : i = 0
      · subst h0
        simp (disch := omega) only [if_true, if_pos, if_neg, Bool.true_and]
        refine Ev.to ih' ?_
        rw [show decide ((0 : Int) ≠ -rd l ((0 : Nat) : Int)) = true from decide_eq_true (by omega), Bool.true_and]
      · have hwm : wrap64 ((i : Int) - 1) = (i : Int) - 1 := w64 (by omega) (by omega)
        have hwn : wrap64 (-(rd l (i : Int))) = -(rd l (i : Int)) := w64 (by omega) (by omega)
        simp (disch := omega) only [if_true, if_pos, if_neg, hwm, hwn, Bool.true_and]
        by_cases hq : rd l ((i : Int) - 1) = -rd l (i : Int)
        · simp only [if_pos hq]
          exact Ev.pure (by simp [hq])
        · simp only [if_neg hq]
          exact Ev.to ih' (by simp [hq])
theorem impl_IsFreeWord.ev (n : Int) (l : List Int) : Ev (fun k => impl_IsFreeWord.f k l n) (isFreeB n l) := by
  simp only [impl_IsFreeWord.f, impl_isCount.eq, Option.bind_some]
  unfold isFreeB
  cases hn : inB n 1 8 with
  | false =>
    refine Ev.succ ?_
    simp [impl_IsFreeWord.j0]
    exact Ev.now _
  | true =>
    obtain ⟨h1, h8⟩ := inB_iff.1 hn
    refine Ev.succ ?_
    simp only [if_true, impl_IsFreeWord.j0, Bool.true_and]
    by_cases hl : l.length ≤ 4000
    · have : ¬ ((l.length : Int) > 4000) := by omega
      simp only [this, decide_false, Bool.false_eq_true, if_false, hl, decide_true, Bool.true_and]
      exact Ev.to (impl_IsFreeWord.ev0 n l h1 h8 hl l.length 0 (by omega) (by omega)) (by simp)
    · have : ((l.length : Int) > 4000) := by omega
      simp only [this, decide_true, if_true, hl, decide_false, Bool.false_and]
      exact Ev.now _

/-! ### impl_backward -/
theorem impl_backward.ev0 (l : List Int) (hs : Small l) (hb : l.length ≤ 1099511627776) : ∀ (d : Nat) (acc : List Int), d ≤ l.length → acc.length + d ≤ 1099511627776 →
    Ev (fun k => impl_backward.l0 k l acc ((d : Int) - 1)) (acc ++ back (l.take d)) := by
  intro d
  induction d with
  | zero =>
    intro acc hd ha
    refine Ev.succ ?_
    simp (disch := omega) only [impl_backward.l0, if_neg]
    exact Ev.pure (by simp [back])
  | succ d ih =>
    intro acc hd ha
    refine Ev.succ ?_
    have hx := hs.rd d (by omega)
    have e : ((d + 1 : Nat) : Int) - 1 = (d : Int) := by omega
    rw [e]
    simp (disch := omega) only [impl_backward.l0, if_pos, w64]
    refine Ev.to (ih (acc ++ [-rd l (d : Int)]) (by omega) (by simp; omega)) ?_
    rw [take_rd l d (by omega), back_snoc]
    simp
theorem impl_backward.ev (l : List Int) (hs : Small l) (hb : l.length ≤ 1099511627776) : Ev (fun k => impl_backward.f k l) (back l) := by
  have e : wrap64 ((l.length : Int) - 1) = (l.length : Int) - 1 := w64 (by omega) (by omega)
  simp only [impl_backward.f, e]
  exact Ev.to (impl_backward.ev0 l hs hb l.length [] (by omega) (by simpa using hb)) (by simp)

/-! ### impl_InverseFree -/
theorem impl_InverseFree.ev (l : List Int) (n : Int) : Ev (fun k => impl_InverseFree.f k l n) (if isFreeB n l = true then (back l, 0) else ([], 1)) := by
  simp only [impl_InverseFree.f]
  refine Ev.bind (impl_IsFreeWord.ev n l) ?_
  by_cases h : isFreeB n l = true
  · simp only [if_pos h]
    exact Ev.bind (impl_backward.ev l (Small.of_free h) (by have := (isFreeB_iff.1 h).2.1; omega)) (Ev.now _)
  · simp only [if_neg h]
    exact Ev.now _

/-! ### laws_eqInt64S -/
theorem laws_eqInt64S.ev0 (l m : List Int) (hb : l.length ≤ 4611686018427387904) (hlm : l.length = m.length) : ∀ (d i : Nat), i + d = l.length →
    Ev (fun k => laws_eqInt64S.l0 k l m (i : Int)) (decide (l.drop i = m.drop i)) := by
  intro d
  induction d with
  | zero =>
    intro i hi
    refine Ev.succ ?_
    simp (disch := omega) only [laws_eqInt64S.l0, if_neg]
    exact Ev.pure (by rw [List.drop_of_length_le (by omega), List.drop_of_length_le (by omega)]; simp)
  | succ d ih =>
    intro i hi
    refine Ev.succ ?_
    simp (disch := omega) only [laws_eqInt64S.l0, if_pos, w64]
    rw [drop_rd l i (by omega), drop_rd m i (by omega)]
    by_cases h : rd l i = rd m i
    · simp only [if_pos h]
      refine Ev.to (ih (i + 1) (by omega)) (by simp [h])
    · simp only [if_neg h]
      exact Ev.pure (by simp [h])
theorem laws_eqInt64S.ev (l m : List Int) (hb : l.length ≤ 4611686018427387904) : Ev (fun k => laws_eqInt64S.f k l m) (decide (l = m)) := by
  by_cases h : l.length = m.length
  · simp (disch := omega) only [laws_eqInt64S.f, if_pos]
    exact Ev.to (laws_eqInt64S.ev0 l m hb h l.length 0 (by omega)) (by simp)
  · simp (disch := omega) only [laws_eqInt64S.f, if_neg]
    exact Ev.pure (by simp; intro e; exact h (by rw [e]))

/-! ### laws_markInt64S -/
theorem laws_markInt64S.ev0 (n : Nat) (hb : n ≤ 4611686018427387904) : ∀ (d i : Nat) (acc : List Int) (x : Int), i + d = n → acc.length = n → -4611686018427387904 ≤ x → x + d ≤ 4611686018427387904 →
    Ev (fun k => laws_markInt64S.l0 k acc x (i : Int)) (x + d, acc.take i ++ iota x d) := by
  intro d
  induction d with
  | zero =>
    intro i acc x hi ha h0 h1
    refine Ev.succ ?_
    simp (disch := omega) only [laws_markInt64S.l0, if_neg]
    exact Ev.pure (by rw [List.take_of_length_le (by omega)]; simp [iota])
  | succ d ih =>
    intro i acc x hi ha h0 h1
    refine Ev.succ ?_
    simp (disch := omega) only [laws_markInt64S.l0, if_pos, w64]
    refine Ev.to (ih (i + 1) (acc.set i x) (x + 1) (by omega) (by simpa using ha) (by omega) (by omega)) ?_
    rw [take_set_succ _ _ _ (by omega), List.append_assoc]
    exact Prod.ext (by simp; omega) rfl
theorem laws_markInt64S.ev (l : List Int) (x : Int) (h0 : 0 ≤ x) (h1 : x + l.length ≤ 4611686018427387904) : Ev (fun k => laws_markInt64S.f k l x) (x + l.length, iota x l.length) := by
  simp only [laws_markInt64S.f]
  exact Ev.to (laws_markInt64S.ev0 l.length (by omega) l.length 0 l x (by omega) rfl (by omega) h1) (by simp)

/-! ### laws_heldInt64S -/
theorem laws_heldInt64S.ev0 (x0 : Int) (n : Nat) (h0 : -4611686018427387904 ≤ x0) (hb : x0 + n ≤ 4611686018427387904) (hn : n ≤ 4611686018427387904) : ∀ (d i : Nat), i + d = n →
    Ev (fun k => laws_heldInt64S.l0 k (iota x0 n) (x0 + i) (i : Int)) (x0 + n) := by
  intro d
  have hl := iota_length x0 n
  induction d with
  | zero =>
    intro i hi
    refine Ev.succ ?_
    simp (disch := omega) only [laws_heldInt64S.l0, if_neg]
    exact Ev.pure (by omega)
  | succ d ih =>
    intro i hi
    refine Ev.succ ?_
    have e := rd_iota n i x0 (by omega)
    simp (disch := omega) only [laws_heldInt64S.l0, if_pos, w64]
    refine Ev.to (Ev.congr (fun k => ?_) (ih (i + 1) (by omega))) rfl
    congr 1
    omega
theorem laws_heldInt64S.ev (x : Int) (n : Nat) (h0 : -4611686018427387904 ≤ x) (h1 : x + n ≤ 4611686018427387904) (hn : n ≤ 4611686018427387904) : Ev (fun k => laws_heldInt64S.f k (iota x n) x) (x + n) := by
  simp only [laws_heldInt64S.f]
  refine Ev.congr (fun k => ?_) (laws_heldInt64S.ev0 x n h0 h1 hn n 0 (by omega))
  simp

-- says For every list and every number the program's InverseFree returns what the reference's returns, keeps its argument and shares no memory; no conditions.
-- row ints int
theorem law (l : List Int) (n : Int) (hl : l.length ≤ maxLen) (hw : ∀ x ∈ l, (Lit.int .i64 x).wf = true) (hn : (Lit.int .i64 n).wf = true) : ∃ k, laws_FnExactInverseFree.f k l n = some true := by
  by_cases hz : (l.length : Int) > 1048576
  · exact ⟨0, by simp only [laws_FnExactInverseFree.f, if_pos hz]⟩
  · obtain ⟨r, c, hr, hrl⟩ : ∃ r c, (if isFreeB n l = true then (back l, (0 : Int)) else ([], 1)) = (r, c) ∧ r.length ≤ 1048576 := by
      by_cases h : isFreeB n l = true
      · exact ⟨back l, 0, by simp only [if_pos h], by rw [back_length]; omega⟩
      · exact ⟨[], 1, by simp only [if_neg h], by simp⟩
    have h1 := laws_toInt64S.ev l (by omega)
    have h2 := spec_InverseFree.ev l n
    have h3 := impl_InverseFree.ev l n
    rw [hr] at h2 h3
    have h4 := laws_eqInt64S.ev l l (by omega)
    have h5 := laws_eqInt64S.ev r r (by omega)
    have h6 := laws_markInt64S.ev l 1 (by omega) (by omega)
    have h7 := laws_markInt64S.ev r 1 (by omega) (by omega)
    have h8 := laws_heldInt64S.ev 1 r.length (by omega) (by omega) (by omega)
    have g1 : ¬ (1 + (l.length : Int) < 0) := by omega
    have g2 : ¬ (1 + (r.length : Int) < 0) := by omega
    refine Ev.rounds ?_
    (try simp only [laws_FnExactInverseFree.f, hz, g1, g2])
    repeat (first | (with_reducible refine Ev.bind h1 ?_; (try dsimp only)) | (with_reducible refine Ev.bind h2 ?_; (try dsimp only)) | (with_reducible refine Ev.bind h3 ?_; (try dsimp only)) | (with_reducible refine Ev.bind h4 ?_; (try dsimp only)) | (with_reducible refine Ev.bind h5 ?_; (try dsimp only)) | (with_reducible refine Ev.bind h6 ?_; (try dsimp only)) | (with_reducible refine Ev.bind h7 ?_; (try dsimp only)) | (with_reducible refine Ev.bind h8 ?_; (try dsimp only)) | (simp only [if_true, if_false, eq_self, decide_true, decide_false, Bool.and_self, Bool.true_and, Bool.and_true, bne_self_eq_false, Bool.not_true, Bool.not_false, Bool.false_eq_true, reduceCtorEq, iota_length, hz, g1, g2]))
    refine Ev.succ ?_
    simp only [laws_FnExactInverseFree.j0]
    repeat (first | (with_reducible refine Ev.bind h1 ?_; (try dsimp only)) | (with_reducible refine Ev.bind h2 ?_; (try dsimp only)) | (with_reducible refine Ev.bind h3 ?_; (try dsimp only)) | (with_reducible refine Ev.bind h4 ?_; (try dsimp only)) | (with_reducible refine Ev.bind h5 ?_; (try dsimp only)) | (with_reducible refine Ev.bind h6 ?_; (try dsimp only)) | (with_reducible refine Ev.bind h7 ?_; (try dsimp only)) | (with_reducible refine Ev.bind h8 ?_; (try dsimp only)) | (simp only [if_true, if_false, eq_self, decide_true, decide_false, Bool.and_self, Bool.true_and, Bool.and_true, bne_self_eq_false, Bool.not_true, Bool.not_false, Bool.false_eq_true, reduceCtorEq, iota_length, hz, g1, g2]))
    refine Ev.succ ?_
    simp only [laws_FnExactInverseFree.j1]
    repeat (first | (with_reducible refine Ev.bind h1 ?_; (try dsimp only)) | (with_reducible refine Ev.bind h2 ?_; (try dsimp only)) | (with_reducible refine Ev.bind h3 ?_; (try dsimp only)) | (with_reducible refine Ev.bind h4 ?_; (try dsimp only)) | (with_reducible refine Ev.bind h5 ?_; (try dsimp only)) | (with_reducible refine Ev.bind h6 ?_; (try dsimp only)) | (with_reducible refine Ev.bind h7 ?_; (try dsimp only)) | (with_reducible refine Ev.bind h8 ?_; (try dsimp only)) | (simp only [if_true, if_false, eq_self, decide_true, decide_false, Bool.and_self, Bool.true_and, Bool.and_true, bne_self_eq_false, Bool.not_true, Bool.not_false, Bool.false_eq_true, reduceCtorEq, iota_length, hz, g1, g2]))
    refine Ev.succ ?_
    simp only [laws_FnExactInverseFree.j2]
    repeat (first | (with_reducible refine Ev.bind h1 ?_; (try dsimp only)) | (with_reducible refine Ev.bind h2 ?_; (try dsimp only)) | (with_reducible refine Ev.bind h3 ?_; (try dsimp only)) | (with_reducible refine Ev.bind h4 ?_; (try dsimp only)) | (with_reducible refine Ev.bind h5 ?_; (try dsimp only)) | (with_reducible refine Ev.bind h6 ?_; (try dsimp only)) | (with_reducible refine Ev.bind h7 ?_; (try dsimp only)) | (with_reducible refine Ev.bind h8 ?_; (try dsimp only)) | (simp only [if_true, if_false, eq_self, decide_true, decide_false, Bool.and_self, Bool.true_and, Bool.and_true, bne_self_eq_false, Bool.not_true, Bool.not_false, Bool.false_eq_true, reduceCtorEq, iota_length, hz, g1, g2]))
    exact Ev.now _

end Go.Proofs.Ytijafgikehlomaa.PureFnExactInverseFree
