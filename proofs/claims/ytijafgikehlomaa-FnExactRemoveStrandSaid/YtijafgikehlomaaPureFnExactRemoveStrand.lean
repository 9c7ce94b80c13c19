/- For every braid-shaped input the program's RemoveStrand returns what the reference's returns, keeps its argument and shares no memory; no conditions. -/
import Derived.Test.YtijafgikehlomaaMFnExactRemoveStrandx5
import Derived.Test.YtijafgikehlomaaLib
set_option linter.unusedVariables false
set_option linter.unusedSimpArgs false
set_option maxRecDepth 10000
set_option maxHeartbeats 4000000
namespace Go.Proofs.Ytijafgikehlomaa.PureFnExactRemoveStrand
open Go.RowKit Go.Proofs.Ytijafgikehlomaa.MFnExactRemoveStrand Go.Proofs.YtijafgikehlomaaW.PrintWords Go.Proofs.Ytijafgikehlomaa.Lib

/-! ### laws_eqInt64S -/
theorem laws_eqInt64S.ev0 (l m : List Int) (hb : l.length ≤ 4611686018427387904) (hlm : l.length = m.length) : ∀ (d i : Nat), i + d = l.length →
    Ev (fun k => laws_eqInt64S.l0 k l m (i : Int)) (decide (l.drop i = m.drop i)) := by
  intro d
  induction d with
  | zero =>
    intro i hi
    refine Ev.succ ?_
    simp (disch := omega) only [laws_eqInt64S.l0, if_neg]
    exact Ev.pure (by rw [List.drop_of_length_le (by omega), List.drop_of_length_le (by omega)]; simp)
  | succ d ih =>
    intro i hi
    refine Ev.succ ?_
    simp (disch := omega) only [laws_eqInt64S.l0, if_pos, w64]
    rw [drop_rd l i (by omega), drop_rd m i (by omega)]
    by_cases h : rd l i = rd m i
    · simp only [if_pos h]
      refine Ev.to (ih (i + 1) (by omega)) (by simp [h])
    · simp only [if_neg h]
      exact Ev.pure (by simp [h])
theorem laws_eqInt64S.ev (l m : List Int) (hb : l.length ≤ 4611686018427387904) : Ev (fun k => laws_eqInt64S.f k l m) (decide (l = m)) := by
  by_cases h : l.length = m.length
  · simp (disch := omega) only [laws_eqInt64S.f, if_pos]
    exact Ev.to (laws_eqInt64S.ev0 l m hb h l.length 0 (by omega)) (by simp)
  · simp (disch := omega) only [laws_eqInt64S.f, if_neg]
    exact Ev.pure (by simp; intro e; exact h (by rw [e]))

/-! ### laws_eqBraid -/
theorem laws_eqBraid.ev (n m : Int) (l s : List Int) (hb : l.length ≤ 4611686018427387904) : Ev (fun k => laws_eqBraid.f k n l m s) (decide (n = m) && decide (l = s)) := by
  simp only [laws_eqBraid.f]
  by_cases h : n = m
  · simp only [if_pos h]
    refine Ev.bind (laws_eqInt64S.ev l s hb) ?_
    by_cases h' : l = s <;> simp [h, h'] <;> exact Ev.now _
  · simp only [if_neg h]
    exact Ev.pure (by simp [h])

/-! ### laws_markInt64S -/
theorem laws_markInt64S.ev0 (n : Nat) (hb : n ≤ 4611686018427387904) : ∀ (d i : Nat) (acc : List Int) (x : Int), i + d = n → acc.length = n → -4611686018427387904 ≤ x → x + d ≤ 4611686018427387904 →
    Ev (fun k => laws_markInt64S.l0 k acc x (i : Int)) (x + d, acc.take i ++ iota x d) := by
  intro d
  induction d with
  | zero =>
    intro i acc x hi ha h0 h1
    refine Ev.succ ?_
    simp (disch := omega) only [laws_markInt64S.l0, if_neg]
    exact Ev.pure (by rw [List.take_of_length_le (by omega)]; simp [iota])
  | succ d ih =>
    intro i acc x hi ha h0 h1
    refine Ev.succ ?_
    simp (disch := omega) only [laws_markInt64S.l0, if_pos, w64]
    refine Ev.to (ih (i + 1) (acc.set i x) (x + 1) (by omega) (by simpa using ha) (by omega) (by omega)) ?_
    rw [take_set_succ _ _ _ (by omega), List.append_assoc]
    exact Prod.ext (by simp; omega) rfl
theorem laws_markInt64S.ev (l : List Int) (x : Int) (h0 : 0 ≤ x) (h1 : x + l.length ≤ 4611686018427387904) : Ev (fun k => laws_markInt64S.f k l x) (x + l.length, iota x l.length) := by
  simp only [laws_markInt64S.f]
  exact Ev.to (laws_markInt64S.ev0 l.length (by omega) l.length 0 l x (by omega) rfl (by omega) h1) (by simp)

/-! ### laws_markBraid -/
theorem laws_markBraid.ev (n : Int) (l : List Int) (x : Int) (h0 : 0 ≤ x) (h1 : x + l.length ≤ 4611686018427387904) : Ev (fun k => laws_markBraid.f k n l x) (x + l.length, iota x l.length) := by
  simp only [laws_markBraid.f]
  exact Ev.bind (laws_markInt64S.ev l x h0 h1) (Ev.now _)

/-! ### laws_heldInt64S -/
theorem laws_heldInt64S.ev0 (x0 : Int) (n : Nat) (h0 : -4611686018427387904 ≤ x0) (hb : x0 + n ≤ 4611686018427387904) (hn : n ≤ 4611686018427387904) : ∀ (d i : Nat), i + d = n →
    Ev (fun k => laws_heldInt64S.l0 k (iota x0 n) (x0 + i) (i : Int)) (x0 + n) := by
  intro d
  have hl := iota_length x0 n
  induction d with
  | zero =>
    intro i hi
    refine Ev.succ ?_
    simp (disch := omega) only [laws_heldInt64S.l0, if_neg]
    exact Ev.pure (by omega)
  | succ d ih =>
    intro i hi
    refine Ev.succ ?_
    have e := rd_iota n i x0 (by omega)
    simp (disch := omega) only [laws_heldInt64S.l0, if_pos, w64]
    refine Ev.to (Ev.congr (fun k => ?_) (ih (i + 1) (by omega))) rfl
    congr 1
    omega
theorem laws_heldInt64S.ev (x : Int) (n : Nat) (h0 : -4611686018427387904 ≤ x) (h1 : x + n ≤ 4611686018427387904) (hn : n ≤ 4611686018427387904) : Ev (fun k => laws_heldInt64S.f k (iota x n) x) (x + n) := by
  simp only [laws_heldInt64S.f]
  refine Ev.congr (fun k => ?_) (laws_heldInt64S.ev0 x n h0 h1 hn n 0 (by omega))
  simp

/-! ### laws_heldBraid -/
theorem laws_heldBraid.ev (m : Int) (x : Int) (n : Nat) (h0 : 0 ≤ x) (h1 : x + n ≤ 4611686018427387904) (hn : n ≤ 4611686018427387904) : Ev (fun k => laws_heldBraid.f k m (iota x n) x) (x + n) := by
  simp only [laws_heldBraid.f]
  refine Ev.bind (laws_heldInt64S.ev x n (by omega) h1 hn) ?_
  simp (disch := omega) only [if_neg]
  exact Ev.now _

/-! ### laws_szInt64S -/
theorem laws_szInt64S.eq (l : List Int) (x : Int) (h0 : 0 ≤ x) (h1 : x ≤ 1048576) (hl : l.length ≤ maxLen) : laws_szInt64S.f l x = some (if x - l.length < 0 then -1 else x - l.length) := by
  unfold maxLen at hl
  simp (disch := omega) only [laws_szInt64S.f, w64]
  split <;> rfl

/-! ### laws_szBraid -/
theorem laws_szBraid.eq (n : Int) (l : List Int) (x : Int) (h0 : 0 ≤ x) (h1 : x ≤ 1048576) (hl : l.length ≤ maxLen) : laws_szBraid.f n l x = some (if x - l.length < 0 then -1 else x - l.length) := by
  simp (disch := assumption) only [laws_szBraid.f, laws_szInt64S.eq, Option.bind_some]
  by_cases h : x - l.length < 0
  · simp [h]
  · simp [h]

/-! ### laws_toInt64S -/
theorem laws_toInt64S.ev0 (l : List Int) (hb : l.length ≤ 17592186044416) : ∀ (d i : Nat) (acc : List Int), i + d = l.length → acc.length = l.length →
    Ev (fun k => laws_toInt64S.l0 k l acc (i : Int)) (acc.take i ++ l.drop i) := by
  intro d
  induction d with
  | zero =>
    intro i acc hi ha
    refine Ev.succ ?_
    simp (disch := omega) only [laws_toInt64S.l0, if_neg]
    exact Ev.pure (by rw [List.take_of_length_le (by omega), List.drop_of_length_le (by omega), List.append_nil])
  | succ d ih =>
    intro i acc hi ha
    refine Ev.succ ?_
    simp (disch := omega) only [laws_toInt64S.l0, if_pos, w64]
    refine Ev.to (ih (i + 1) (acc.set i (rd l i)) (by omega) (by simpa using ha)) ?_
    rw [take_set_succ _ _ _ (by omega), drop_rd l i (by omega), List.append_assoc]; rfl
theorem laws_toInt64S.ev (l : List Int) (hb : l.length ≤ 17592186044416) : Ev (fun k => laws_toInt64S.f k l) l := by
  simp (disch := omega) only [laws_toInt64S.f, if_pos]
  refine Ev.to (laws_toInt64S.ev0 l hb l.length 0 (List.replicate l.length 0) (by omega) (by simp)) (by simp)

/-! ### laws_toBraid -/
theorem laws_toBraid.ev (n : Int) (l : List Int) (hb : l.length ≤ 17592186044416) : Ev (fun k => laws_toBraid.f k n l) (n, l) := by
  simp only [laws_toBraid.f]
  exact Ev.bind (laws_toInt64S.ev l hb) (Ev.now _)

/-! ### spec_l01In -/
theorem spec_l01In.eq (a lo hi : Int) : spec_l01In.f a lo hi = some (inB a lo hi) := by
  unfold spec_l01In.f inB
  by_cases h : lo ≤ a <;> simp [h]

/-! ### spec_l01Is -/
theorem spec_l01Is.letter (n x : Int) (h1 : 1 ≤ n) (h8 : n ≤ 8) (hx : -9223372036854775808 ≤ x ∧ x ≤ 9223372036854775807) : (inB x 1 (n - 1) || inB (wrap64 (-x)) 1 (n - 1)) = letterB n x := by
  unfold inB letterB inB wrap64
  rw [Bool.eq_iff_iff]; simp; omega
theorem spec_l01Is.ev0 (n : Int) (l : List Int) (h1 : 1 ≤ n) (h8 : n ≤ 8) (hb : l.length ≤ 200) (hf : Fits l) : ∀ (d i : Nat), i + d = l.length →
    Ev (fun k => spec_l01Is.l0 k (i : Int) n l) ((l.drop i).all (letterB n)) := by
  intro d
  induction d with
  | zero =>
    intro i hi
    refine Ev.succ ?_
    simp (disch := omega) only [spec_l01Is.l0, if_neg]
    exact Ev.pure (by rw [List.drop_of_length_le (by omega)]; rfl)
  | succ d ih =>
    intro i hi
    refine Ev.succ ?_
    have hx := hf (rd l i) (rd_mem l i (by omega))
    have hl := spec_l01Is.letter n (rd l i) h1 h8 hx
    have hw : wrap64 (n - 1) = n - 1 := w64 (by omega) (by omega)
    have hw2 : wrap64 ((i : Int) + 1) = ((i + 1 : Nat) : Int) := w64 (by omega) (by omega)
    simp (disch := omega) only [spec_l01Is.l0, if_pos, hw, hw2, spec_l01In.eq, Option.bind_some]
    rw [drop_rd l i (by omega), List.all_cons, ← hl]
    cases h : inB (rd l i) 1 (n - 1) with
    | true => simp only [if_true, Bool.true_or, Bool.true_and]; exact ih (i + 1) (by omega)
    | false =>
      cases h' : inB (wrap64 (-(rd l i))) 1 (n - 1) with
      | true => simp only [if_true, Bool.false_or, Bool.true_and, Bool.false_eq_true, if_false]; exact ih (i + 1) (by omega)
      | false => exact Ev.pure (by simp)
theorem spec_l01Is.ev (n : Int) (l : List Int) (hf : Fits l) : Ev (fun k => spec_l01Is.f k n l) (isBraidB n l) := by
  simp only [spec_l01Is.f, spec_l01In.eq, Option.bind_some]
  unfold isBraidB
  cases hn : inB n 1 8 with
  | false =>
    refine Ev.succ ?_
    simp [spec_l01Is.j0]
    exact Ev.now _
  | true =>
    obtain ⟨h1, h8⟩ := inB_iff.1 hn
    refine Ev.succ ?_
    simp only [if_true, spec_l01Is.j0, Bool.true_and]
    by_cases hl : l.length ≤ 200
    · have : ¬ ((l.length : Int) > 200) := by omega
      simp only [this, decide_false, Bool.false_eq_true, if_false, hl, decide_true, Bool.true_and]
      exact Ev.to (spec_l01Is.ev0 n l h1 h8 hl hf l.length 0 (by omega)) (by simp)
    · have : ((l.length : Int) > 200) := by omega
      simp only [this, decide_true, if_true, hl, decide_false, Bool.false_and]
      exact Ev.now _

/-! ### spec_l01Own -/
theorem spec_l01Own.eq (l : List Int) (h : l.length ≤ 1099511627776) : spec_l01Own.f l = some l := by
  simp only [spec_l01Own.f, Option.bind_some, List.nil_append, List.length_nil]
  rw [if_pos (by omega)]

/-! ### spec_RemoveStrand -/
theorem spec_RemoveStrand.ev0 (n : Int) (l : List Int) (hn : 1 ≤ n ∧ n ≤ 8) (hb : l.length ≤ 200) (hs : Small l) : ∀ (d i c : Nat), i + d = l.length → c ≤ i →
    Ev (fun k => spec_RemoveStrand.l0 k ((l.length : Int) - 1) (c : Int) (i : Int) n l)
      (if c + cntI (n - 1) (l.drop i) = 1 ∧ absI (rd l ((l.length : Int) - 1)) = n - 1 then (n - 1, l.take (l.length - 1), 0) else (0, [], 5)) := by
  intro d
  have w1 : wrap64 (n - 1) = n - 1 := w64 (by omega) (by omega)
  induction d with
  | zero =>
    intro i c hi hc
    refine Ev.succ ?_
    have e : cntI (n - 1) (l.drop i) = 0 := by rw [List.drop_of_length_le (by omega)]; rfl
    rw [e]
    by_cases h1 : c = 1
    · have hl : 0 < l.length := by omega
      have hx := hs.rd (l.length - 1) (by omega)
      rw [show ((l.length - 1 : Nat) : Int) = (l.length : Int) - 1 from by omega] at hx
      have w2 : wrap64 (-(rd l ((l.length : Int) - 1))) = -(rd l ((l.length : Int) - 1)) := w64 (by omega) (by omega)
      have ha : mx (rd l ((l.length : Int) - 1)) (-(rd l ((l.length : Int) - 1))) = absI (rd l ((l.length : Int) - 1)) := rfl
      by_cases h2 : absI (rd l ((l.length : Int) - 1)) = n - 1
      · have ht : ((l.length : Int) - 1).toNat = l.length - 1 := by omega
        simp (disch := omega) only [spec_RemoveStrand.l0, if_pos, if_neg, w1, w2, ha, spec_l01Own.eq, ht, Option.bind_some, List.length_take]
        have e3 : spec_l01Own.f (l.take (l.length - 1)) = some (l.take (l.length - 1)) := spec_l01Own.eq _ (by simp; omega)
        (try simp only [e3, Option.bind_some])
        exact Ev.pure (by first | rfl | rw [if_pos ⟨by omega, h2⟩])
      · simp (disch := omega) only [spec_RemoveStrand.l0, if_pos, if_neg, w1, w2, ha]
        exact Ev.pure (by first | rfl | rw [if_neg (by simp [h2])])
    · simp (disch := omega) only [spec_RemoveStrand.l0, if_neg]
      exact Ev.pure (by first | rfl | rw [if_neg (by omega)])
  | succ d ih =>
    intro i c hi hc
    refine Ev.succ ?_
    have hx := hs.rd i (by omega)
    have w2 : wrap64 (-(rd l (i : Int))) = -(rd l (i : Int)) := w64 (by omega) (by omega)
    have ha : mx (rd l (i : Int)) (-(rd l (i : Int))) = absI (rd l (i : Int)) := rfl
    have hcn : cntI (n - 1) (l.drop i) = (if absI (rd l (i : Int)) = n - 1 then 1 else 0) + cntI (n - 1) (l.drop (i + 1)) := by
      rw [drop_rd l i (by omega)]
      simp only [cntI, List.countP_cons, decide_eq_true_eq]
      omega
    rw [hcn]
    by_cases h : absI (rd l (i : Int)) = n - 1
    · have := ih (i + 1) (c + 1) (by omega) (by omega)
      simp (disch := omega) only [spec_RemoveStrand.l0, if_pos, w1, w2, ha, w64]
      refine Ev.to this ?_
      rw [show c + (1 + cntI (n - 1) (l.drop (i + 1))) = c + 1 + cntI (n - 1) (l.drop (i + 1)) from by omega]
    · have := ih (i + 1) c (by omega) (by omega)
      simp (disch := omega) only [spec_RemoveStrand.l0, if_pos, if_neg, w1, w2, ha, w64]
      refine Ev.to this ?_
      rw [show c + (0 + cntI (n - 1) (l.drop (i + 1))) = c + cntI (n - 1) (l.drop (i + 1)) from by omega]
theorem spec_RemoveStrand.ev (n : Int) (l : List Int) (hf : Fits l) : Ev (fun k => spec_RemoveStrand.f k n l) (removeM n l) := by
  simp only [spec_RemoveStrand.f]
  refine Ev.bind (spec_l01Is.ev n l hf) ?_
  unfold removeM
  by_cases h : isBraidB n l = true
  · obtain ⟨hn, hl, hx⟩ := isBraidB_iff.1 h
    have w1 : wrap64 ((l.length : Int) - 1) = (l.length : Int) - 1 := w64 (by omega) (by omega)
    simp only [if_pos h, w1]
    refine Ev.to (spec_RemoveStrand.ev0 n l hn hl (Small.of_braid h) l.length 0 0 (by omega) (by omega)) ?_
    congr 1
    rw [List.drop_zero, Nat.zero_add, eq_iff_iff]
    by_cases h0 : l.length = 0
    · have : l = [] := List.eq_nil_of_length_eq_zero h0
      subst this
      simp [cntI]
    · have hsplit : cntI (n - 1) l = cntI (n - 1) (l.take (l.length - 1)) + (if absI (rd l ((l.length : Int) - 1)) = n - 1 then 1 else 0) := by
        have e := take_rd l (l.length - 1) (by omega)
        rw [show l.length - 1 + 1 = l.length from by omega, List.take_length, show ((l.length - 1 : Nat) : Int) = (l.length : Int) - 1 from by omega] at e
        rw [show cntI (n - 1) l = cntI (n - 1) (l.take (l.length - 1) ++ [rd l ((l.length : Int) - 1)]) from by rw [← e]]
        simp only [cntI, List.countP_append, List.countP_cons, List.countP_nil, decide_eq_true_eq]
        omega
      have hz : cntI (n - 1) (l.take (l.length - 1)) = 0 ↔ ∀ x ∈ l.take (l.length - 1), absI x ≠ n - 1 := by
        simp only [cntI, List.countP_eq_zero, decide_eq_true_eq, ne_eq]
      rw [hsplit]
      constructor
      · rintro ⟨h1, h2⟩
        rw [if_pos h2] at h1
        exact ⟨by omega, h2, hz.1 (by omega)⟩
      · rintro ⟨h1, h2, h3⟩
        rw [if_pos h2, hz.2 h3]
        exact ⟨rfl, h2⟩
  · simp only [if_neg h]
    exact Ev.now _

/-! ### impl_within -/
theorem impl_within.eq (a lo hi : Int) : impl_within.f a lo hi = some (inB a lo hi) := by
  unfold impl_within.f inB
  by_cases h : lo ≤ a <;> simp [h]

/-! ### impl_isCount -/
theorem impl_isCount.eq (a : Int) : impl_isCount.f a = some (inB a 1 8) := by simp only [impl_isCount.f, impl_within.eq, Option.bind_some]

/-! ### impl_isLetter -/
theorem impl_isLetter.eq (x n : Int) (h1 : 1 ≤ n) (h8 : n ≤ 8) : impl_isLetter.f x n = some (letterB n x) := by
  simp (disch := omega) only [impl_isLetter.f, impl_within.eq, Option.bind_some, w64]
  unfold letterB
  split <;> simp_all

/-! ### impl_IsBraid -/
theorem impl_IsBraid.ev0 (n : Int) (l : List Int) (h1 : 1 ≤ n) (h8 : n ≤ 8) (hb : l.length ≤ 200) : ∀ (d i : Nat), i + d = l.length →
    Ev (fun k => impl_IsBraid.l0 k l (l.length : Int) (i : Int) n l) ((l.drop i).all (letterB n)) := by
  intro d
  induction d with
  | zero =>
    intro i hi
    refine Ev.succ ?_
    simp (disch := omega) only [impl_IsBraid.l0, if_neg]
    exact Ev.pure (by rw [List.drop_of_length_le (by omega)]; rfl)
  | succ d ih =>
    intro i hi
    refine Ev.succ ?_
    simp (disch := omega) only [impl_IsBraid.l0, if_pos, w64, impl_isLetter.eq, Option.bind_some]
    rw [drop_rd l i (by omega), List.all_cons]
    cases h : letterB n (rd l i) with
    | true => simp only [if_true, Bool.true_and]; exact ih (i + 1) (by omega)
    | false => exact Ev.pure (by simp)
theorem impl_IsBraid.ev (n : Int) (l : List Int) : Ev (fun k => impl_IsBraid.f k n l) (isBraidB n l) := by
  simp only [impl_IsBraid.f, impl_isCount.eq, Option.bind_some]
  unfold isBraidB
  cases hn : inB n 1 8 with
  | false =>
    refine Ev.succ ?_
    simp [impl_IsBraid.j0]
    exact Ev.now _
  | true =>
    obtain ⟨h1, h8⟩ := inB_iff.1 hn
    refine Ev.succ ?_
    simp only [if_true, impl_IsBraid.j0, Bool.true_and]
    by_cases hl : l.length ≤ 200
    · have : ¬ ((l.length : Int) > 200) := by omega
      simp only [this, decide_false, Bool.false_eq_true, if_false, hl, decide_true, Bool.true_and]
      exact Ev.to (impl_IsBraid.ev0 n l h1 h8 hl l.length 0 (by omega)) (by simp)
    · have : ((l.length : Int) > 200) := by omega
      simp only [this, decide_true, if_true, hl, decide_false, Bool.false_and]
      exact Ev.now _

/-! ### impl_copyOf -/
theorem impl_copyOf.eq (l : List Int) (h : l.length ≤ 1099511627776) : impl_copyOf.f l = some l := by
  simp only [impl_copyOf.f, Option.bind_some, List.nil_append, List.length_nil]
  rw [if_pos (by omega)]

/-! ### impl_size -/
theorem impl_size.eq (x : Int) (h : -4611686018427387904 ≤ x ∧ x ≤ 4611686018427387904) : impl_size.f x = some (absI x) := by
  have e : wrap64 (-x) = -x := w64 (by omega) (by omega)
  simp only [impl_size.f, e, absI]

/-! ### slices_Index_int64_int64 -/
theorem slices_Index_int64_int64.ev0 (l : List Int) (v : Int) (hb : l.length ≤ 1099511627776) : ∀ (d i : Nat), i + d = l.length →
    ∃ r, Ev (fun k => slices_Index_int64_int64.l0 k l v (l.length : Int) (i : Int)) r ∧ (r ≥ 0 ↔ v ∈ l.drop i) := by
  intro d
  induction d with
  | zero =>
    intro i hi
    refine ⟨-1, Ev.succ ?_, by rw [List.drop_of_length_le (by omega)]; simp⟩
    simp (disch := omega) only [slices_Index_int64_int64.l0, if_neg]
    exact Ev.now _
  | succ d ih =>
    intro i hi
    by_cases h : v = rd l (i : Int)
    · refine ⟨i, Ev.succ ?_, by rw [drop_rd l i (by omega)]; simp [h]⟩
      simp (disch := omega) only [slices_Index_int64_int64.l0, if_pos]
      exact Ev.pure rfl
    · obtain ⟨r, hr, hm⟩ := ih (i + 1) (by omega)
      refine ⟨r, Ev.succ ?_, by rw [drop_rd l i (by omega)]; simp [h, hm]⟩
      simp (disch := omega) only [slices_Index_int64_int64.l0, if_pos, if_neg, w64]
      exact hr

/-! ### slices_Contains_int64_int64 -/
theorem slices_Contains_int64_int64.ev (l : List Int) (v : Int) (hb : l.length ≤ 1099511627776) : Ev (fun k => slices_Contains_int64_int64.f k l v) (decide (v ∈ l)) := by
  obtain ⟨r, hr, hm⟩ := slices_Index_int64_int64.ev0 l v hb l.length 0 (by omega)
  simp only [slices_Contains_int64_int64.f, slices_Index_int64_int64.f]
  refine Ev.bind hr ?_
  exact Ev.pure (by rw [List.drop_zero] at hm; exact decide_eq_decide.2 hm)

/-! ### impl_has -/
theorem impl_has.ev (l : List Int) (v : Int) (hb : l.length ≤ 1099511627776) (hv : -4611686018427387904 ≤ v ∧ v ≤ 4611686018427387904) : Ev (fun k => impl_has.f k l v) (decide (v ∈ l) || decide (-v ∈ l)) := by
  have e : wrap64 (-v) = -v := w64 (by omega) (by omega)
  simp only [impl_has.f, e]
  refine Ev.bind (slices_Contains_int64_int64.ev l v hb) ?_
  by_cases h : v ∈ l
  · simp only [h, decide_true, if_true, Bool.true_or]
    exact Ev.now _
  · simp only [h, decide_false, Bool.false_eq_true, if_false, Bool.false_or]
    exact Ev.bind (slices_Contains_int64_int64.ev l (-v) hb) (Ev.now _)

/-! ### impl_RemoveStrand -/
theorem impl_RemoveStrand.ev (n : Int) (l : List Int) : Ev (fun k => impl_RemoveStrand.f k n l) (removeM n l) := by
  simp only [impl_RemoveStrand.f]
  refine Ev.bind (impl_IsBraid.ev n l) ?_
  unfold removeM
  by_cases h : isBraidB n l = true
  · obtain ⟨hn, hl, hx⟩ := isBraidB_iff.1 h
    have w1 : wrap64 ((l.length : Int) - 1) = (l.length : Int) - 1 := w64 (by omega) (by omega)
    have w2 : wrap64 (n - 1) = n - 1 := w64 (by omega) (by omega)
    simp only [if_pos h, w1, w2]
    by_cases h0 : l.length = 0
    · simp (disch := omega) only [if_pos, if_neg]
      exact Ev.pure (by first | rfl | rw [if_neg (by omega)])
    · have hxs := (Small.of_braid h).rd (l.length - 1) (by omega)
      rw [show ((l.length - 1 : Nat) : Int) = (l.length : Int) - 1 from by omega] at hxs
      have e1 := impl_size.eq (rd l ((l.length : Int) - 1)) hxs
      have ht : ((l.length : Int) - 1).toNat = l.length - 1 := by omega
      simp (disch := omega) only [if_pos, if_neg, e1, Option.bind_some, ht]
      by_cases h2 : absI (rd l ((l.length : Int) - 1)) = n - 1
      · simp only [if_pos h2]
        have hle : ((l.length : Int) - 1) ≤ l.length := by omega
        (try simp only [if_pos hle])
        refine Ev.bind (impl_has.ev (l.take (l.length - 1)) (n - 1) (by simp; omega) (by omega)) ?_
        have hiff : (decide (n - 1 ∈ l.take (l.length - 1)) || decide (-(n - 1) ∈ l.take (l.length - 1))) = false ↔ ∀ x ∈ l.take (l.length - 1), absI x ≠ n - 1 := by
          simp only [Bool.or_eq_false_iff, decide_eq_false_iff_not]
          constructor
          · rintro ⟨ha, hb⟩ x hx e
            rcases (absI_iff x (n - 1) (by omega)).1 e with rfl | rfl
            · exact ha hx
            · exact hb hx
          · intro hall
            exact ⟨fun hm => hall _ hm ((absI_iff _ _ (by omega)).2 (.inl rfl)), fun hm => hall _ hm ((absI_iff _ _ (by omega)).2 (.inr rfl))⟩
        cases hc : (decide (n - 1 ∈ l.take (l.length - 1)) || decide (-(n - 1) ∈ l.take (l.length - 1))) with
        | true =>
          simp only [if_true]
          exact Ev.pure (by first | rfl | (rw [if_neg]; rintro ⟨_, _, h3⟩; rw [hiff.2 h3] at hc; cases hc))
        | false =>
          have e3 := impl_copyOf.eq (l.take (l.length - 1)) (by simp; omega)
          simp only [Bool.false_eq_true, if_false, e3, Option.bind_some]
          exact Ev.pure (by first | rfl | rw [if_pos ⟨by omega, h2, hiff.1 hc⟩])
      · simp only [if_neg h2]
        exact Ev.pure (by first | rfl | rw [if_neg (by simp [h2])])
  · simp only [if_neg h]
    exact Ev.now _

-- says For every braid-shaped input the program's RemoveStrand returns what the reference's returns, keeps its argument and shares no memory; no conditions.
-- row braid
theorem law (n : Int) (l : List Int) (hl : l.length ≤ maxLen) (hw : ∀ x ∈ l, (Lit.int .i64 x).wf = true) : ∃ k, laws_FnExactRemoveStrand.f k n l = some true := by
  have hf := Fits.of hw
  have hsz := laws_szBraid.eq n l 1048576 (by omega) (by omega) hl
  by_cases hz : (1048576 : Int) - l.length < 0
  · rw [if_pos hz] at hsz
    exact ⟨0, by simp only [laws_FnExactRemoveStrand.f, hsz, Option.bind_some]; rfl⟩
  rw [if_neg hz] at hsz
  obtain ⟨m, r, c, hr, hrl⟩ : ∃ m r c, removeM n l = (m, r, c) ∧ r.length ≤ 200 := ⟨_, _, _, rfl, removeM_length n l⟩
  have h1 := laws_toBraid.ev n l (by omega)
  have h2 := spec_RemoveStrand.ev n l hf
  have h3 := impl_RemoveStrand.ev n l
  rw [hr] at h2 h3
  have h4 := laws_eqBraid.ev n n l l (by omega)
  have h5 := laws_eqBraid.ev m m r r (by omega)
  have h6 := laws_markBraid.ev n l 1 (by omega) (by omega)
  have h7 := laws_markBraid.ev m r 1 (by omega) (by omega)
  have h8 := laws_heldBraid.ev m 1 r.length (by omega) (by omega) (by omega)
  have g1 : ¬ (1 + (l.length : Int) < 0) := by omega
  have g2 : ¬ (1 + (r.length : Int) < 0) := by omega
  refine Ev.rounds ?_
  simp only [laws_FnExactRemoveStrand.f, hsz, Option.bind_some, if_neg hz]
  (try simp only [laws_FnExactRemoveStrand.f, g1, g2])
  repeat (first | (with_reducible refine Ev.bind h1 ?_; (try dsimp only)) | (with_reducible refine Ev.bind h2 ?_; (try dsimp only)) | (with_reducible refine Ev.bind h3 ?_; (try dsimp only)) | (with_reducible refine Ev.bind h4 ?_; (try dsimp only)) | (with_reducible refine Ev.bind h5 ?_; (try dsimp only)) | (with_reducible refine Ev.bind h6 ?_; (try dsimp only)) | (with_reducible refine Ev.bind h7 ?_; (try dsimp only)) | (with_reducible refine Ev.bind h8 ?_; (try dsimp only)) | (simp only [if_true, if_false, eq_self, decide_true, decide_false, Bool.and_self, Bool.true_and, Bool.and_true, bne_self_eq_false, Bool.not_true, Bool.not_false, Bool.false_eq_true, reduceCtorEq, iota_length, g1, g2]))
  refine Ev.succ ?_
  simp only [laws_FnExactRemoveStrand.j0]
  repeat (first | (with_reducible refine Ev.bind h1 ?_; (try dsimp only)) | (with_reducible refine Ev.bind h2 ?_; (try dsimp only)) | (with_reducible refine Ev.bind h3 ?_; (try dsimp only)) | (with_reducible refine Ev.bind h4 ?_; (try dsimp only)) | (with_reducible refine Ev.bind h5 ?_; (try dsimp only)) | (with_reducible refine Ev.bind h6 ?_; (try dsimp only)) | (with_reducible refine Ev.bind h7 ?_; (try dsimp only)) | (with_reducible refine Ev.bind h8 ?_; (try dsimp only)) | (simp only [if_true, if_false, eq_self, decide_true, decide_false, Bool.and_self, Bool.true_and, Bool.and_true, bne_self_eq_false, Bool.not_true, Bool.not_false, Bool.false_eq_true, reduceCtorEq, iota_length, g1, g2]))
  refine Ev.succ ?_
  simp only [laws_FnExactRemoveStrand.j1]
  repeat (first | (with_reducible refine Ev.bind h1 ?_; (try dsimp only)) | (with_reducible refine Ev.bind h2 ?_; (try dsimp only)) | (with_reducible refine Ev.bind h3 ?_; (try dsimp only)) | (with_reducible refine Ev.bind h4 ?_; (try dsimp only)) | (with_reducible refine Ev.bind h5 ?_; (try dsimp only)) | (with_reducible refine Ev.bind h6 ?_; (try dsimp only)) | (with_reducible refine Ev.bind h7 ?_; (try dsimp only)) | (with_reducible refine Ev.bind h8 ?_; (try dsimp only)) | (simp only [if_true, if_false, eq_self, decide_true, decide_false, Bool.and_self, Bool.true_and, Bool.and_true, bne_self_eq_false, Bool.not_true, Bool.not_false, Bool.false_eq_true, reduceCtorEq, iota_length, g1, g2]))
  refine Ev.succ ?_
  simp only [laws_FnExactRemoveStrand.j2]
  repeat (first | (with_reducible refine Ev.bind h1 ?_; (try dsimp only)) | (with_reducible refine Ev.bind h2 ?_; (try dsimp only)) | (with_reducible refine Ev.bind h3 ?_; (try dsimp only)) | (with_reducible refine Ev.bind h4 ?_; (try dsimp only)) | (with_reducible refine Ev.bind h5 ?_; (try dsimp only)) | (with_reducible refine Ev.bind h6 ?_; (try dsimp only)) | (with_reducible refine Ev.bind h7 ?_; (try dsimp only)) | (with_reducible refine Ev.bind h8 ?_; (try dsimp only)) | (simp only [if_true, if_false, eq_self, decide_true, decide_false, Bool.and_self, Bool.true_and, Bool.and_true, bne_self_eq_false, Bool.not_true, Bool.not_false, Bool.false_eq_true, reduceCtorEq, iota_length, g1, g2]))
  exact Ev.now _

end Go.Proofs.Ytijafgikehlomaa.PureFnExactRemoveStrand
