/- For every braid-shaped input, every number and every list the program's ColourStep returns what the reference's returns, keeps its arguments and shares no memory; no conditions. -/
import Derived.Test.YtjpknbjdikkleaaMFnExactColourStepx6
import Derived.Test.YtjpknbjdikkleaaLib
import Derived.Test.YtjpknbjdikkleaaLibCol
set_option linter.unusedVariables false
set_option linter.unusedSimpArgs false
set_option maxRecDepth 10000
set_option maxHeartbeats 4000000
namespace Go.Proofs.Ytjpknbjdikkleaa.PureFnExactColourStep
open Go.RowKit Go.Proofs.Ytjpknbjdikkleaa.MFnExactColourStep Go.Proofs.YtjpknbjdikkleaaW.PrintWords Go.Proofs.Ytjpknbjdikkleaa.Lib

theorem rdL1_eq (xs : List (List Int)) (i : Int) : rd_L1 xs i = rdl xs i := by
  have h : rd_L1 xs i = xs.getD i.toNat [] := by unfold rd_L1; rfl
  rw [h, rdl]

/-! ### laws_szInt64S -/
theorem laws_szInt64S.eq (l : List Int) (x : Int) (h0 : 0 ≤ x) (h1 : x ≤ 1048576) (hl : l.length ≤ maxLen) : laws_szInt64S.f l x = some (if x - l.length < 0 then -1 else x - l.length) := by
  unfold maxLen at hl
  simp (disch := omega) only [laws_szInt64S.f, w64]
  split <;> rfl

/-! ### laws_szBraid -/
theorem laws_szBraid.eq (n : Int) (l : List Int) (x : Int) (h0 : 0 ≤ x) (h1 : x ≤ 1048576) (hl : l.length ≤ maxLen) : laws_szBraid.f n l x = some (if x - l.length < 0 then -1 else x - l.length) := by
  simp (disch := assumption) only [laws_szBraid.f, laws_szInt64S.eq, Option.bind_some]
  by_cases h : x - l.length < 0
  · simp [h]
  · simp [h]

/-! ### laws_toInt64S -/
theorem laws_toInt64S.ev0 (l : List Int) (hb : l.length ≤ 17592186044416) : ∀ (d i : Nat) (acc : List Int), i + d = l.length → acc.length = l.length →
    Ev (fun k => laws_toInt64S.l0 k l acc (i : Int)) (acc.take i ++ l.drop i) := by
  intro d
  induction d with
  | zero =>
    intro i acc hi ha
    refine Ev.succ ?_
    simp (disch := omega) only [laws_toInt64S.l0, if_neg]
    exact Ev.pure (by rw [List.take_of_length_le (by omega), List.drop_of_length_le (by omega), List.append_nil])
  | succ d ih =>
    intro i acc hi ha
    refine Ev.succ ?_
    simp (disch := omega) only [laws_toInt64S.l0, if_pos, w64]
    refine Ev.to (ih (i + 1) (acc.set i (rd l i)) (by omega) (by simpa using ha)) ?_
    rw [take_set_succ _ _ _ (by omega), drop_rd l i (by omega), List.append_assoc]; rfl
theorem laws_toInt64S.ev (l : List Int) (hb : l.length ≤ 17592186044416) : Ev (fun k => laws_toInt64S.f k l) l := by
  simp (disch := omega) only [laws_toInt64S.f, if_pos]
  refine Ev.to (laws_toInt64S.ev0 l hb l.length 0 (List.replicate l.length 0) (by omega) (by simp)) (by simp)

/-! ### laws_toBraid -/
theorem laws_toBraid.ev (n : Int) (l : List Int) (hb : l.length ≤ 17592186044416) : Ev (fun k => laws_toBraid.f k n l) (n, l) := by
  simp only [laws_toBraid.f]
  exact Ev.bind (laws_toInt64S.ev l hb) (Ev.now _)

/-! ### laws_eqInt64S -/
theorem laws_eqInt64S.ev0 (l m : List Int) (hb : l.length ≤ 4611686018427387904) (hlm : l.length = m.length) : ∀ (d i : Nat), i + d = l.length →
    Ev (fun k => laws_eqInt64S.l0 k l m (i : Int)) (decide (l.drop i = m.drop i)) := by
  intro d
  induction d with
  | zero =>
    intro i hi
    refine Ev.succ ?_
    simp (disch := omega) only [laws_eqInt64S.l0, if_neg]
    exact Ev.pure (by rw [List.drop_of_length_le (by omega), List.drop_of_length_le (by omega)]; simp)
  | succ d ih =>
    intro i hi
    refine Ev.succ ?_
    simp (disch := omega) only [laws_eqInt64S.l0, if_pos, w64]
    rw [drop_rd l i (by omega), drop_rd m i (by omega)]
    by_cases h : rd l i = rd m i
    · simp only [if_pos h]
      refine Ev.to (ih (i + 1) (by omega)) (by simp [h])
    · simp only [if_neg h]
      exact Ev.pure (by simp [h])
theorem laws_eqInt64S.ev (l m : List Int) (hb : l.length ≤ 4611686018427387904) : Ev (fun k => laws_eqInt64S.f k l m) (decide (l = m)) := by
  by_cases h : l.length = m.length
  · simp (disch := omega) only [laws_eqInt64S.f, if_pos]
    exact Ev.to (laws_eqInt64S.ev0 l m hb h l.length 0 (by omega)) (by simp)
  · simp (disch := omega) only [laws_eqInt64S.f, if_neg]
    exact Ev.pure (by simp; intro e; exact h (by rw [e]))

/-! ### laws_eqBraid -/
theorem laws_eqBraid.ev (n m : Int) (l s : List Int) (hb : l.length ≤ 4611686018427387904) : Ev (fun k => laws_eqBraid.f k n l m s) (decide (n = m) && decide (l = s)) := by
  simp only [laws_eqBraid.f]
  by_cases h : n = m
  · simp only [if_pos h]
    refine Ev.bind (laws_eqInt64S.ev l s hb) ?_
    by_cases h' : l = s <;> simp [h, h'] <;> exact Ev.now _
  · simp only [if_neg h]
    exact Ev.pure (by simp [h])

/-! ### laws_markInt64S -/
theorem laws_markInt64S.ev0 (n : Nat) (hb : n ≤ 4611686018427387904) : ∀ (d i : Nat) (acc : List Int) (x : Int), i + d = n → acc.length = n → -4611686018427387904 ≤ x → x + d ≤ 4611686018427387904 →
    Ev (fun k => laws_markInt64S.l0 k acc x (i : Int)) (x + d, acc.take i ++ iota x d) := by
  intro d
  induction d with
  | zero =>
    intro i acc x hi ha h0 h1
    refine Ev.succ ?_
    simp (disch := omega) only [laws_markInt64S.l0, if_neg]
    exact Ev.pure (by rw [List.take_of_length_le (by omega)]; simp [iota])
  | succ d ih =>
    intro i acc x hi ha h0 h1
    refine Ev.succ ?_
    simp (disch := omega) only [laws_markInt64S.l0, if_pos, w64]
    refine Ev.to (ih (i + 1) (acc.set i x) (x + 1) (by omega) (by simpa using ha) (by omega) (by omega)) ?_
    rw [take_set_succ _ _ _ (by omega), List.append_assoc]
    exact Prod.ext (by simp; omega) rfl
theorem laws_markInt64S.ev (l : List Int) (x : Int) (h0 : 0 ≤ x) (h1 : x + l.length ≤ 4611686018427387904) : Ev (fun k => laws_markInt64S.f k l x) (x + l.length, iota x l.length) := by
  simp only [laws_markInt64S.f]
  exact Ev.to (laws_markInt64S.ev0 l.length (by omega) l.length 0 l x (by omega) rfl (by omega) h1) (by simp)

/-! ### laws_markBraid -/
theorem laws_markBraid.ev (n : Int) (l : List Int) (x : Int) (h0 : 0 ≤ x) (h1 : x + l.length ≤ 4611686018427387904) : Ev (fun k => laws_markBraid.f k n l x) (x + l.length, iota x l.length) := by
  simp only [laws_markBraid.f]
  exact Ev.bind (laws_markInt64S.ev l x h0 h1) (Ev.now _)

/-! ### spec_l01In -/
theorem spec_l01In.eq (a lo hi : Int) : spec_l01In.f a lo hi = some (inB a lo hi) := by
  unfold spec_l01In.f inB
  by_cases h : lo ≤ a <;> simp [h]

/-! ### spec_l01Is -/
theorem spec_l01Is.letter (n x : Int) (h1 : 1 ≤ n) (h8 : n ≤ 8) (hx : -9223372036854775808 ≤ x ∧ x ≤ 9223372036854775807) : (inB x 1 (n - 1) || inB (wrap64 (-x)) 1 (n - 1)) = letterB n x := by
  unfold inB letterB inB wrap64
  rw [Bool.eq_iff_iff]; simp; omega
theorem spec_l01Is.ev0 (n : Int) (l : List Int) (h1 : 1 ≤ n) (h8 : n ≤ 8) (hb : l.length ≤ 200) (hf : Fits l) : ∀ (d i : Nat), i + d = l.length →
    Ev (fun k => spec_l01Is.l0 k (i : Int) n l) ((l.drop i).all (letterB n)) := by
  intro d
  induction d with
  | zero =>
    intro i hi
    refine Ev.succ ?_
    simp (disch := omega) only [spec_l01Is.l0, if_neg]
    exact Ev.pure (by rw [List.drop_of_length_le (by omega)]; rfl)
  | succ d ih =>
    intro i hi
    refine Ev.succ ?_
    have hx := hf (rd l i) (rd_mem l i (by omega))
    have hl := spec_l01Is.letter n (rd l i) h1 h8 hx
    have hw : wrap64 (n - 1) = n - 1 := w64 (by omega) (by omega)
    have hw2 : wrap64 ((i : Int) + 1) = ((i + 1 : Nat) : Int) := w64 (by omega) (by omega)
    simp (disch := omega) only [spec_l01Is.l0, if_pos, hw, hw2, spec_l01In.eq, Option.bind_some]
    rw [drop_rd l i (by omega), List.all_cons, ← hl]
    cases h : inB (rd l i) 1 (n - 1) with
    | true => simp only [if_true, Bool.true_or, Bool.true_and]; exact ih (i + 1) (by omega)
    | false =>
      cases h' : inB (wrap64 (-(rd l i))) 1 (n - 1) with
      | true => simp only [if_true, Bool.false_or, Bool.true_and, Bool.false_eq_true, if_false]; exact ih (i + 1) (by omega)
      | false => exact Ev.pure (by simp)
theorem spec_l01Is.ev (n : Int) (l : List Int) (hf : Fits l) : Ev (fun k => spec_l01Is.f k n l) (isBraidB n l) := by
  simp only [spec_l01Is.f, spec_l01In.eq, Option.bind_some]
  unfold isBraidB
  cases hn : inB n 1 8 with
  | false =>
    refine Ev.succ ?_
    simp [spec_l01Is.j0]
    exact Ev.now _
  | true =>
    obtain ⟨h1, h8⟩ := inB_iff.1 hn
    refine Ev.succ ?_
    simp only [if_true, spec_l01Is.j0, Bool.true_and]
    by_cases hl : l.length ≤ 200
    · have : ¬ ((l.length : Int) > 200) := by omega
      simp only [this, decide_false, Bool.false_eq_true, if_false, hl, decide_true, Bool.true_and]
      exact Ev.to (spec_l01Is.ev0 n l h1 h8 hl hf l.length 0 (by omega)) (by simp)
    · have : ((l.length : Int) > 200) := by omega
      simp only [this, decide_true, if_true, hl, decide_false, Bool.false_and]
      exact Ev.now _

/-! ### spec_l08Prime -/
-- use LibCol
theorem spec_l08Prime.all : ∀ n : Fin 98, 3 ≤ n.val → spec_l08Prime.l0 100 (n.val : Int) 2 = some (primeGo 12 (n.val : Int) 2) := by decide +kernel
theorem spec_l08Prime.ev (p : Int) : Ev (fun k => spec_l08Prime.f k p) (primeB p) := by
  simp only [spec_l08Prime.f, spec_l01In.eq, Option.bind_some]
  unfold primeB
  cases hn : inB p 3 97 with
  | false =>
    simp only [Bool.false_eq_true, if_false, Bool.false_and]
    exact Ev.now _
  | true =>
    obtain ⟨h1, h2⟩ := inB_iff.1 hn
    simp only [if_true, Bool.true_and]
    have h := spec_l08Prime.all ⟨p.toNat, by omega⟩ (by simp only; omega)
    simp only [show ((p.toNat : Nat) : Int) = p by omega] at h
    exact Ev.of (fun k => (spec_l08Prime.mono_l k) _ _) h

/-! ### spec_l08Code -/
-- use LibCol
theorem spec_l08Code.ev0 (p : Int) (hp : 3 ≤ p ∧ p ≤ 97) (c : List Int) (hb : c.length ≤ 1099511627776) : ∀ (d i : Nat), i + d = c.length →
    Ev (fun k => spec_l08Code.l0 k p c (i : Int)) (if inAll p (c.drop i) = true then 0 else 2) := by
  intro d
  induction d with
  | zero =>
    intro i hi
    refine Ev.succ ?_
    have c1 : ¬ (i : Int) < (c.length : Int) := by omega
    simp only [spec_l08Code.l0, if_neg c1]
    exact Ev.pure (by rw [List.drop_of_length_le (by omega)]; rfl)
  | succ d ih =>
    intro i hi
    refine Ev.succ ?_
    have c1 : (i : Int) < (c.length : Int) := by omega
    have c2 : 0 ≤ (i : Int) := by omega
    have w1 := Aside0.mk (w64 (x := (i : Int) + 1) (by omega) (by omega))
    have w2 := Aside0.mk (w64 (x := p - 1) (by omega) (by omega))
    simp only [spec_l08Code.l0, if_pos c1, if_pos c2, w1.out, w2.out, spec_l01In.eq, Option.bind_some]
    rw [drop_rd c i (by omega)]
    simp only [inAll, List.all_cons]
    by_cases h : inB (rd c (i : Int)) 0 (p - 1) = true
    · simp only [h, if_true, Bool.true_and]
      exact ih (i + 1) (by omega)
    · simp only [Bool.eq_false_iff.2 h, Bool.false_eq_true, if_false, Bool.false_and]
      exact Ev.now _
theorem spec_l08Code.ev (n : Int) (l : List Int) (p : Int) (c : List Int) (hf : Fits l) (hb : c.length ≤ 1099511627776) : Ev (fun k => spec_l08Code.f k n l p c) (codeM n l p c) := by
  simp only [spec_l08Code.f]
  refine Ev.bind (spec_l01Is.ev n l hf) ?_
  unfold codeM
  by_cases h : isBraidB n l = true
  · simp only [if_pos h]
    refine Ev.bind (spec_l08Prime.ev p) ?_
    by_cases hp : primeB p = true
    · simp only [if_pos hp]
      by_cases hl : (c.length : Int) = n
      · simp only [if_pos hl]
        exact spec_l08Code.ev0 p (primeB_range hp) c hb c.length 0 (by omega)
      · simp only [if_neg hl]
        exact Ev.now _
    · simp only [if_neg hp]
      exact Ev.now _
  · simp only [if_neg h]
    exact Ev.now _

/-! ### spec_l01Own -/
theorem spec_l01Own.eq (l : List Int) (h : l.length ≤ 1099511627776) : spec_l01Own.f l = some l := by
  simp only [spec_l01Own.f, Option.bind_some, List.nil_append, List.length_nil]
  rw [if_pos (by omega)]

/-! ### spec_l08Step -/
-- use LibCol
theorem spec_l08Step.ev0 (p : Int) (hp : 3 ≤ p ∧ p ≤ 97) (l : List Int) (hl : l.length ≤ 200) (n : Nat) (hn : n ≤ 8) (hx : ∀ x ∈ l, 1 ≤ absI x ∧ absI x ≤ (n : Int) - 1) : ∀ (d i : Nat) (acc : List Int), i + d = l.length → acc.length = n → InP p acc →
    Ev (fun k => spec_l08Step.l0 k l p acc (i : Int)) (colAll p (l.drop i) acc) := by
  intro d
  induction d with
  | zero =>
    intro i acc hi ha hq
    refine Ev.succ ?_
    have c1 : ¬ (i : Int) < (l.length : Int) := by omega
    simp only [spec_l08Step.l0, if_neg c1]
    exact Ev.pure (by rw [List.drop_of_length_le (by omega)]; rfl)
  | succ d ih =>
    intro i acc hi ha hq
    refine Ev.succ ?_
    have hxi := hx _ (rd_mem l i (by omega))
    have hnext := ih (i + 1) (colStep p acc (rd l (i : Int))) (by omega) (by rw [colStep_length]; exact ha) (colStep_InP hp.1 hq (by omega))
    have hab := absI_eq (rd l (i : Int))
    have hm := mx_abs (rd l (i : Int)) (by split at hab <;> omega)
    rw [drop_rd l i (by omega), colAll]
    unfold colStep at hnext ⊢
    generalize hv : absI (rd l (i : Int)) = v at hnext hxi hab hm ⊢
    obtain ⟨m, rfl⟩ : ∃ m : Nat, v = (m : Int) + 1 := ⟨(v - 1).toNat, by omega⟩
    have em : ((m : Int) + 1 - 1).toNat = m := by omega
    have em1 : ((m : Int) + 1).toNat = m + 1 := by omega
    have q1 := hq.rd m (by omega)
    have q2 := hq.rd (m + 1) (by omega)
    rw [Int.natCast_add, Int.natCast_one] at q2
    have c1 : (i : Int) < (l.length : Int) := by omega
    have c2 : 0 ≤ (i : Int) := by omega
    have w0 := Aside0.mk (show wrap64 ((m : Int) + 1 - 1) = (m : Int) from (w64 (by omega) (by omega)).trans (by omega))
    have c3 : 0 ≤ (m : Int) := by omega
    have c4 : (m : Int) < (acc.length : Int) := by omega
    have c5 : 0 ≤ (m : Int) + 1 := by omega
    have c6 : (m : Int) + 1 < (acc.length : Int) := by omega
    have w1 := Aside0.mk (w64 (x := (i : Int) + 1) (by omega) (by omega))
    have c7 : ¬ p = 0 := by omega
    simp only [em] at hnext ⊢
    by_cases hs : rd l (i : Int) > 0
    · have w2 := Aside0.mk (w64 (x := 2 * rd acc (m : Int)) (by omega) (by omega))
      have w3 := Aside0.mk (w64 (x := 2 * rd acc (m : Int) - rd acc ((m : Int) + 1)) (by omega) (by omega))
      have w4 := Aside0.mk (w64 (x := 2 * rd acc (m : Int) - rd acc ((m : Int) + 1) + p) (by omega) (by omega))
      simp only [if_pos hs] at hnext ⊢
      simp only [spec_l08Step.l0, if_pos c1, if_pos c2, hm, w0.out, if_pos c3, if_pos c4, if_pos c5, if_pos c6, if_pos hs, if_neg c7, w2.out, w3.out, w4.out, w1.out, em1, Int.toNat_natCast]
      exact hnext
    · have w2 := Aside0.mk (w64 (x := 2 * rd acc ((m : Int) + 1)) (by omega) (by omega))
      have w3 := Aside0.mk (w64 (x := 2 * rd acc ((m : Int) + 1) - rd acc (m : Int)) (by omega) (by omega))
      have w4 := Aside0.mk (w64 (x := 2 * rd acc ((m : Int) + 1) - rd acc (m : Int) + p) (by omega) (by omega))
      simp only [if_neg hs] at hnext ⊢
      simp only [spec_l08Step.l0, if_pos c1, if_pos c2, hm, w0.out, if_pos c3, if_pos c4, if_pos c5, if_pos c6, if_neg hs, if_neg c7, w2.out, w3.out, w4.out, w1.out, em1, Int.toNat_natCast]
      exact hnext
theorem spec_l08Step.ev (n : Int) (l : List Int) (p : Int) (c : List Int) (h : codeM n l p c = 0) : Ev (fun k => spec_l08Step.f k l p c) (colAll p l c) := by
  obtain ⟨h1, h2, h3, h4⟩ := codeM_zero h
  obtain ⟨hn, hl, hx⟩ := isBraidB_iff.1 h1
  have hp := primeB_range h2
  have hx' : ∀ x ∈ l, 1 ≤ absI x ∧ absI x ≤ (c.length : Int) - 1 := fun x hx' => by
    have := hx x hx'
    rw [absI_eq]; split <;> omega
  simp only [spec_l08Step.f, spec_l01Own.eq c (by omega), Option.bind_some]
  exact spec_l08Step.ev0 p hp l hl c.length (by omega) hx' l.length 0 c (by omega) rfl (inAll_InP h4)

/-! ### spec_ColourStep -/
-- use LibCol
theorem spec_ColourStep.ev (n : Int) (l : List Int) (p : Int) (c : List Int) (hf : Fits l) (hb : c.length ≤ 1099511627776) : Ev (fun k => spec_ColourStep.f k n l p c) (colourM n l p c) := by
  simp only [spec_ColourStep.f]
  refine Ev.bind (spec_l08Code.ev n l p c hf hb) ?_
  unfold colourM
  by_cases h : codeM n l p c = 0
  · simp only [if_pos h]
    exact Ev.bind (spec_l08Step.ev n l p c h) (Ev.now _)
  · simp only [if_neg h]
    exact Ev.now _

/-! ### impl_within -/
theorem impl_within.eq (a lo hi : Int) : impl_within.f a lo hi = some (inB a lo hi) := by
  unfold impl_within.f inB
  by_cases h : lo ≤ a <;> simp [h]

/-! ### impl_isCount -/
theorem impl_isCount.eq (a : Int) : impl_isCount.f a = some (inB a 1 8) := by simp only [impl_isCount.f, impl_within.eq, Option.bind_some]

/-! ### impl_isLetter -/
theorem impl_isLetter.eq (x n : Int) (h1 : 1 ≤ n) (h8 : n ≤ 8) : impl_isLetter.f x n = some (letterB n x) := by
  simp (disch := omega) only [impl_isLetter.f, impl_within.eq, Option.bind_some, w64]
  unfold letterB
  split <;> simp_all

/-! ### impl_IsBraid -/
theorem impl_IsBraid.ev0 (n : Int) (l : List Int) (h1 : 1 ≤ n) (h8 : n ≤ 8) (hb : l.length ≤ 200) : ∀ (d i : Nat), i + d = l.length →
    Ev (fun k => impl_IsBraid.l0 k l (l.length : Int) (i : Int) n l) ((l.drop i).all (letterB n)) := by
  intro d
  induction d with
  | zero =>
    intro i hi
    refine Ev.succ ?_
    simp (disch := omega) only [impl_IsBraid.l0, if_neg]
    exact Ev.pure (by rw [List.drop_of_length_le (by omega)]; rfl)
  | succ d ih =>
    intro i hi
    refine Ev.succ ?_
    simp (disch := omega) only [impl_IsBraid.l0, if_pos, w64, impl_isLetter.eq, Option.bind_some]
    rw [drop_rd l i (by omega), List.all_cons]
    cases h : letterB n (rd l i) with
    | true => simp only [if_true, Bool.true_and]; exact ih (i + 1) (by omega)
    | false => exact Ev.pure (by simp)
theorem impl_IsBraid.ev (n : Int) (l : List Int) : Ev (fun k => impl_IsBraid.f k n l) (isBraidB n l) := by
  simp only [impl_IsBraid.f, impl_isCount.eq, Option.bind_some]
  unfold isBraidB
  cases hn : inB n 1 8 with
  | false =>
    refine Ev.succ ?_
    simp [impl_IsBraid.j0]
    exact Ev.now _
  | true =>
    obtain ⟨h1, h8⟩ := inB_iff.1 hn
    refine Ev.succ ?_
    simp only [if_true, impl_IsBraid.j0, Bool.true_and]
    by_cases hl : l.length ≤ 200
    · have : ¬ ((l.length : Int) > 200) := by omega
      simp only [this, decide_false, Bool.false_eq_true, if_false, hl, decide_true, Bool.true_and]
      exact Ev.to (impl_IsBraid.ev0 n l h1 h8 hl l.length 0 (by omega)) (by simp)
    · have : ((l.length : Int) > 200) := by omega
      simp only [this, decide_true, if_true, hl, decide_false, Bool.false_and]
      exact Ev.now _

/-! ### impl_isPrime -/
-- use LibCol
theorem impl_isPrime.all : ∀ n : Fin 98, 3 ≤ n.val → impl_isPrime.l0 100 (n.val : Int) 2 = some (primeGo 12 (n.val : Int) 2) := by decide +kernel
theorem impl_isPrime.ev (p : Int) : Ev (fun k => impl_isPrime.f k p) (primeB p) := by
  simp only [impl_isPrime.f, impl_within.eq, Option.bind_some]
  unfold primeB
  cases hn : inB p 3 97 with
  | false =>
    simp only [Bool.false_eq_true, if_false, Bool.false_and]
    exact Ev.now _
  | true =>
    obtain ⟨h1, h2⟩ := inB_iff.1 hn
    simp only [if_true, Bool.true_and]
    have h := impl_isPrime.all ⟨p.toNat, by omega⟩ (by simp only; omega)
    simp only [show ((p.toNat : Nat) : Int) = p by omega] at h
    exact Ev.of (fun k => (impl_isPrime.mono_l k) _ _) h

/-! ### impl_size -/
theorem impl_size.eq (x : Int) (h : -4611686018427387904 ≤ x ∧ x ≤ 4611686018427387904) : impl_size.f x = some (absI x) := by
  have e : wrap64 (-x) = -x := w64 (by omega) (by omega)
  simp only [impl_size.f, e, absI]

/-! ### impl_copyOf -/
theorem impl_copyOf.eq (l : List Int) (h : l.length ≤ 1099511627776) : impl_copyOf.f l = some l := by
  simp only [impl_copyOf.f, Option.bind_some, List.nil_append, List.length_nil]
  rw [if_pos (by omega)]

/-! ### impl_colour -/
-- use LibCol
theorem impl_colour.ev0 (p : Int) (hp : 3 ≤ p ∧ p ≤ 97) (l : List Int) (hl : l.length ≤ 200) (n : Nat) (hn : n ≤ 8) (hx : ∀ x ∈ l, 1 ≤ absI x ∧ absI x ≤ (n : Int) - 1) : ∀ (d i : Nat) (acc : List Int), i + d = l.length → acc.length = n → InP p acc →
    Ev (fun k => impl_colour.l0 k p acc l (l.length : Int) (i : Int)) (colAll p (l.drop i) acc) := by
  intro d
  induction d with
  | zero =>
    intro i acc hi ha hq
    refine Ev.succ ?_
    have c1 : ¬ (i : Int) < (l.length : Int) := by omega
    simp only [impl_colour.l0, if_neg c1]
    exact Ev.pure (by rw [List.drop_of_length_le (by omega)]; rfl)
  | succ d ih =>
    intro i acc hi ha hq
    refine Ev.succ ?_
    have hxi := hx _ (rd_mem l i (by omega))
    have hnext := ih (i + 1) (colStep p acc (rd l (i : Int))) (by omega) (by rw [colStep_length]; exact ha) (colStep_InP hp.1 hq (by omega))
    have hab := absI_eq (rd l (i : Int))
    have hm := impl_size.eq (rd l (i : Int)) (by split at hab <;> omega)
    rw [drop_rd l i (by omega), colAll]
    unfold colStep at hnext ⊢
    generalize hv : absI (rd l (i : Int)) = v at hnext hxi hab hm ⊢
    obtain ⟨m, rfl⟩ : ∃ m : Nat, v = (m : Int) + 1 := ⟨(v - 1).toNat, by omega⟩
    have em : ((m : Int) + 1 - 1).toNat = m := by omega
    have em1 : ((m : Int) + 1).toNat = m + 1 := by omega
    have q1 := hq.rd m (by omega)
    have q2 := hq.rd (m + 1) (by omega)
    rw [Int.natCast_add, Int.natCast_one] at q2
    have c1 : (i : Int) < (l.length : Int) := by omega
    have c2 : 0 ≤ (i : Int) := by omega
    have w0 := Aside0.mk (show wrap64 ((m : Int) + 1 - 1) = (m : Int) from (w64 (by omega) (by omega)).trans (by omega))
    have c3 : 0 ≤ (m : Int) := by omega
    have c4 : (m : Int) < (acc.length : Int) := by omega
    have c5 : 0 ≤ (m : Int) + 1 := by omega
    have c6 : (m : Int) + 1 < (acc.length : Int) := by omega
    have w1 := Aside0.mk (w64 (x := (i : Int) + 1) (by omega) (by omega))
    have c7 : ¬ p = 0 := by omega
    simp only [em] at hnext ⊢
    by_cases hs : rd l (i : Int) > 0
    · have w2 := Aside0.mk (w64 (x := 2 * rd acc (m : Int)) (by omega) (by omega))
      have w3 := Aside0.mk (w64 (x := 2 * rd acc (m : Int) - rd acc ((m : Int) + 1)) (by omega) (by omega))
      have w4 := Aside0.mk (w64 (x := 2 * rd acc (m : Int) - rd acc ((m : Int) + 1) + p) (by omega) (by omega))
      simp only [if_pos hs] at hnext ⊢
      simp only [impl_colour.l0, if_pos c1, if_pos c2, hm, Option.bind_some, w0.out, if_pos c3, if_pos c4, if_pos c5, if_pos c6, if_pos hs, if_neg c7, w2.out, w3.out, w4.out, w1.out, em1, Int.toNat_natCast]
      exact hnext
    · have w2 := Aside0.mk (w64 (x := 2 * rd acc ((m : Int) + 1)) (by omega) (by omega))
      have w3 := Aside0.mk (w64 (x := 2 * rd acc ((m : Int) + 1) - rd acc (m : Int)) (by omega) (by omega))
      have w4 := Aside0.mk (w64 (x := 2 * rd acc ((m : Int) + 1) - rd acc (m : Int) + p) (by omega) (by omega))
      simp only [if_neg hs] at hnext ⊢
      simp only [impl_colour.l0, if_pos c1, if_pos c2, hm, Option.bind_some, w0.out, if_pos c3, if_pos c4, if_pos c5, if_pos c6, if_neg hs, if_neg c7, w2.out, w3.out, w4.out, w1.out, em1, Int.toNat_natCast]
      exact hnext
theorem impl_colour.ev (n : Int) (l : List Int) (p : Int) (c : List Int) (h : codeM n l p c = 0) : Ev (fun k => impl_colour.f k l p c) (colAll p l c) := by
  obtain ⟨h1, h2, h3, h4⟩ := codeM_zero h
  obtain ⟨hn, hl, hx⟩ := isBraidB_iff.1 h1
  have hp := primeB_range h2
  have hx' : ∀ x ∈ l, 1 ≤ absI x ∧ absI x ≤ (c.length : Int) - 1 := fun x hx' => by
    have := hx x hx'
    rw [absI_eq]; split <;> omega
  simp only [impl_colour.f, impl_copyOf.eq c (by omega), Option.bind_some]
  exact impl_colour.ev0 p hp l hl c.length (by omega) hx' l.length 0 c (by omega) rfl (inAll_InP h4)

/-! ### impl_ColourStep -/
-- use LibCol
theorem impl_ColourStep.out_eq (p : Int) (hp : 3 ≤ p ∧ p ≤ 97) (c : List Int) : c.any (impl_ColourStep.out p) = !inAll p c := by
  have w : wrap64 (p - 1) = p - 1 := w64 (by omega) (by omega)
  induction c with
  | nil => rfl
  | cons x c ih =>
    have e : impl_ColourStep.out p x = !inB x 0 (p - 1) := by
      unfold impl_ColourStep.out inB
      rw [w]
      by_cases h : x ≥ 0
      · have h' : 0 ≤ x := h
        simp [h']
      · have h' : ¬ 0 ≤ x := h
        simp [h']
    rw [List.any_cons, ih, e, inAll, inAll, List.all_cons, Bool.not_and]
theorem impl_ColourStep.ev (n : Int) (l : List Int) (p : Int) (c : List Int) : Ev (fun k => impl_ColourStep.f k n l p c) (colourM n l p c) := by
  simp only [impl_ColourStep.f]
  refine Ev.bind (impl_IsBraid.ev n l) ?_
  by_cases h : isBraidB n l = true
  · simp only [if_pos h]
    refine Ev.bind (impl_isPrime.ev p) ?_
    by_cases hp : primeB p = true
    · simp only [if_pos hp]
      by_cases hl : (c.length : Int) = n
      · simp only [if_pos hl, impl_ColourStep.out_eq p (primeB_range hp) c]
        by_cases hq : inAll p c = true
        · have hc : codeM n l p c = 0 := by simp only [codeM, if_pos h, if_pos hp, if_pos hl, if_pos hq]
          simp only [hq, Bool.not_true, Bool.false_eq_true, if_false]
          refine Ev.bind (impl_colour.ev n l p c hc) ?_
          exact Ev.pure (by rw [colourM, if_pos hc])
        · have hc : codeM n l p c = 2 := by simp only [codeM, if_pos h, if_pos hp, if_pos hl, if_neg hq]
          simp only [Bool.eq_false_iff.2 hq, Bool.not_false, if_true]
          exact Ev.pure (by rw [colourM, hc]; rfl)
      · have hc : codeM n l p c = 2 := by simp only [codeM, if_pos h, if_pos hp, if_neg hl]
        simp only [if_neg hl]
        exact Ev.pure (by rw [colourM, hc]; rfl)
    · have hc : codeM n l p c = 2 := by simp only [codeM, if_pos h, if_neg hp]
      simp only [if_neg hp]
      exact Ev.pure (by rw [colourM, hc]; rfl)
  · have hc : codeM n l p c = 1 := by simp only [codeM, if_neg h]
    simp only [if_neg h]
    exact Ev.pure (by rw [colourM, hc]; rfl)

/-! ### laws_heldInt64S -/
theorem laws_heldInt64S.ev0 (x0 : Int) (n : Nat) (h0 : -4611686018427387904 ≤ x0) (hb : x0 + n ≤ 4611686018427387904) (hn : n ≤ 4611686018427387904) : ∀ (d i : Nat), i + d = n →
    Ev (fun k => laws_heldInt64S.l0 k (iota x0 n) (x0 + i) (i : Int)) (x0 + n) := by
  intro d
  have hl := iota_length x0 n
  induction d with
  | zero =>
    intro i hi
    refine Ev.succ ?_
    simp (disch := omega) only [laws_heldInt64S.l0, if_neg]
    exact Ev.pure (by omega)
  | succ d ih =>
    intro i hi
    refine Ev.succ ?_
    have e := rd_iota n i x0 (by omega)
    simp (disch := omega) only [laws_heldInt64S.l0, if_pos, w64]
    refine Ev.to (Ev.congr (fun k => ?_) (ih (i + 1) (by omega))) rfl
    congr 1
    omega
theorem laws_heldInt64S.ev (x : Int) (n : Nat) (h0 : -4611686018427387904 ≤ x) (h1 : x + n ≤ 4611686018427387904) (hn : n ≤ 4611686018427387904) : Ev (fun k => laws_heldInt64S.f k (iota x n) x) (x + n) := by
  simp only [laws_heldInt64S.f]
  refine Ev.congr (fun k => ?_) (laws_heldInt64S.ev0 x n h0 h1 hn n 0 (by omega))
  simp

-- says For every braid-shaped input, every number and every list the program's ColourStep returns what the reference's returns, keeps its arguments and shares no memory; no conditions.
-- row braid int ints
-- use LibCol
theorem law (n : Int) (l : List Int) (p : Int) (a : List Int) (hl : l.length ≤ maxLen) (hw : ∀ x ∈ l, (Lit.int .i64 x).wf = true) (_hp : (Lit.int .i64 p).wf = true) (ha : a.length ≤ maxLen) (hwa : ∀ x ∈ a, (Lit.int .i64 x).wf = true) : ∃ k, laws_FnExactColourStep.f k n l p a = some true := by
  have hf := Fits.of hw
  by_cases hz1 : (a.length : Int) > 1048576
  · exact ⟨0, by simp only [laws_FnExactColourStep.f, if_pos hz1]⟩
  have hsz := laws_szBraid.eq n l 1048576 (by omega) (by omega) hl
  by_cases hz : (1048576 : Int) - l.length < 0
  · rw [if_pos hz] at hsz
    exact ⟨0, by simp only [laws_FnExactColourStep.f, if_neg hz1, hsz, Option.bind_some]; rfl⟩
  rw [if_neg hz] at hsz
  obtain ⟨r, c, hr, hrl⟩ : ∃ r c, colourM n l p a = (r, c) ∧ r.length ≤ 8 := ⟨_, _, rfl, colourM_length n l p a⟩
  have h1 := laws_toBraid.ev n l (by omega)
  have h1' := laws_toInt64S.ev a (by omega)
  have h2 := spec_ColourStep.ev n l p a hf (by omega)
  have h3 := impl_ColourStep.ev n l p a
  rw [hr] at h2 h3
  have h4 := laws_eqBraid.ev n n l l (by omega)
  have h4' := laws_eqInt64S.ev a a (by omega)
  have h5 := laws_eqInt64S.ev r r (by omega)
  have h6 := laws_markBraid.ev n l 1 (by omega) (by omega)
  have h6' := laws_markInt64S.ev a (1 + l.length) (by omega) (by omega)
  have h7 := laws_markInt64S.ev r 1 (by omega) (by omega)
  have h8 := laws_heldInt64S.ev 1 r.length (by omega) (by omega) (by omega)
  have g1 : ¬ (1 + (l.length : Int) + (a.length : Int) < 0) := by omega
  have g2 : ¬ (1 + (r.length : Int) < 0) := by omega
  refine Ev.rounds ?_
  simp only [laws_FnExactColourStep.f, if_neg hz1, hsz, Option.bind_some, if_neg hz]
  (try simp only [laws_FnExactColourStep.f, g1, g2])
  repeat (first | (with_reducible refine Ev.bind h1 ?_; (try dsimp only)) | (with_reducible refine Ev.bind h1' ?_; (try dsimp only)) | (with_reducible refine Ev.bind h2 ?_; (try dsimp only)) | (with_reducible refine Ev.bind h3 ?_; (try dsimp only)) | (with_reducible refine Ev.bind h4 ?_; (try dsimp only)) | (with_reducible refine Ev.bind h4' ?_; (try dsimp only)) | (with_reducible refine Ev.bind h5 ?_; (try dsimp only)) | (with_reducible refine Ev.bind h6 ?_; (try dsimp only)) | (with_reducible refine Ev.bind h6' ?_; (try dsimp only)) | (with_reducible refine Ev.bind h7 ?_; (try dsimp only)) | (with_reducible refine Ev.bind h8 ?_; (try dsimp only)) | (simp only [if_true, if_false, eq_self, decide_true, decide_false, Bool.and_self, Bool.true_and, Bool.and_true, bne_self_eq_false, Bool.not_true, Bool.not_false, Bool.false_eq_true, reduceCtorEq, iota_length, g1, g2]))
  refine Ev.succ ?_
  simp only [laws_FnExactColourStep.j0]
  repeat (first | (with_reducible refine Ev.bind h1 ?_; (try dsimp only)) | (with_reducible refine Ev.bind h1' ?_; (try dsimp only)) | (with_reducible refine Ev.bind h2 ?_; (try dsimp only)) | (with_reducible refine Ev.bind h3 ?_; (try dsimp only)) | (with_reducible refine Ev.bind h4 ?_; (try dsimp only)) | (with_reducible refine Ev.bind h4' ?_; (try dsimp only)) | (with_reducible refine Ev.bind h5 ?_; (try dsimp only)) | (with_reducible refine Ev.bind h6 ?_; (try dsimp only)) | (with_reducible refine Ev.bind h6' ?_; (try dsimp only)) | (with_reducible refine Ev.bind h7 ?_; (try dsimp only)) | (with_reducible refine Ev.bind h8 ?_; (try dsimp only)) | (simp only [if_true, if_false, eq_self, decide_true, decide_false, Bool.and_self, Bool.true_and, Bool.and_true, bne_self_eq_false, Bool.not_true, Bool.not_false, Bool.false_eq_true, reduceCtorEq, iota_length, g1, g2]))
  refine Ev.succ ?_
  simp only [laws_FnExactColourStep.j1]
  repeat (first | (with_reducible refine Ev.bind h1 ?_; (try dsimp only)) | (with_reducible refine Ev.bind h1' ?_; (try dsimp only)) | (with_reducible refine Ev.bind h2 ?_; (try dsimp only)) | (with_reducible refine Ev.bind h3 ?_; (try dsimp only)) | (with_reducible refine Ev.bind h4 ?_; (try dsimp only)) | (with_reducible refine Ev.bind h4' ?_; (try dsimp only)) | (with_reducible refine Ev.bind h5 ?_; (try dsimp only)) | (with_reducible refine Ev.bind h6 ?_; (try dsimp only)) | (with_reducible refine Ev.bind h6' ?_; (try dsimp only)) | (with_reducible refine Ev.bind h7 ?_; (try dsimp only)) | (with_reducible refine Ev.bind h8 ?_; (try dsimp only)) | (simp only [if_true, if_false, eq_self, decide_true, decide_false, Bool.and_self, Bool.true_and, Bool.and_true, bne_self_eq_false, Bool.not_true, Bool.not_false, Bool.false_eq_true, reduceCtorEq, iota_length, g1, g2]))
  refine Ev.succ ?_
  simp only [laws_FnExactColourStep.j2]
  repeat (first | (with_reducible refine Ev.bind h1 ?_; (try dsimp only)) | (with_reducible refine Ev.bind h1' ?_; (try dsimp only)) | (with_reducible refine Ev.bind h2 ?_; (try dsimp only)) | (with_reducible refine Ev.bind h3 ?_; (try dsimp only)) | (with_reducible refine Ev.bind h4 ?_; (try dsimp only)) | (with_reducible refine Ev.bind h4' ?_; (try dsimp only)) | (with_reducible refine Ev.bind h5 ?_; (try dsimp only)) | (with_reducible refine Ev.bind h6 ?_; (try dsimp only)) | (with_reducible refine Ev.bind h6' ?_; (try dsimp only)) | (with_reducible refine Ev.bind h7 ?_; (try dsimp only)) | (with_reducible refine Ev.bind h8 ?_; (try dsimp only)) | (simp only [if_true, if_false, eq_self, decide_true, decide_false, Bool.and_self, Bool.true_and, Bool.and_true, bne_self_eq_false, Bool.not_true, Bool.not_false, Bool.false_eq_true, reduceCtorEq, iota_length, g1, g2]))
  exact Ev.now _

end Go.Proofs.Ytjpknbjdikkleaa.PureFnExactColourStep
