/- For every braid-shaped input and every number the program's CountColourings returns what the reference's returns and leaves its arguments alone; no conditions. -/
import Derived.Test.YtcbomfkimohlfaaMFnExactCountColouringsx6
import Derived.Test.YtcbomfkimohlfaaLib
import Derived.Test.YtcbomfkimohlfaaLibChar
import Derived.Test.YtcbomfkimohlfaaLibCol
import Derived.Test.YtcbomfkimohlfaaLibRank
set_option linter.unusedVariables false
set_option linter.unusedSimpArgs false
set_option maxRecDepth 10000
set_option maxHeartbeats 4000000
namespace Go.Proofs.Ytcbomfkimohlfaa.PureFnExactCountColourings
open Go.RowKit Go.Proofs.Ytcbomfkimohlfaa.MFnExactCountColourings Go.Proofs.YtcbomfkimohlfaaW.PrintWords Go.Proofs.Ytcbomfkimohlfaa.Lib

theorem rdL1_eq (xs : List (List Int)) (i : Int) : rd_L1 xs i = rdl xs i := by
  have h : rd_L1 xs i = xs.getD i.toNat [] := by unfold rd_L1; rfl
  rw [h, rdl]

/-! ### laws_szInt64S -/
theorem laws_szInt64S.eq (l : List Int) (x : Int) (h0 : 0 ≤ x) (h1 : x ≤ 1048576) (hl : l.length ≤ maxLen) : laws_szInt64S.f l x = some (if x - l.length < 0 then -1 else x - l.length) := by
  unfold maxLen at hl
  simp (disch := omega) only [laws_szInt64S.f, w64]
  split <;> rfl

/-! ### laws_szBraid -/
theorem laws_szBraid.eq (n : Int) (l : List Int) (x : Int) (h0 : 0 ≤ x) (h1 : x ≤ 1048576) (hl : l.length ≤ maxLen) : laws_szBraid.f n l x = some (if x - l.length < 0 then -1 else x - l.length) := by
  simp (disch := assumption) only [laws_szBraid.f, laws_szInt64S.eq, Option.bind_some]
  by_cases h : x - l.length < 0
  · simp [h]
  · simp [h]

/-! ### laws_toInt64S -/
theorem laws_toInt64S.ev0 (l : List Int) (hb : l.length ≤ 17592186044416) : ∀ (d i : Nat) (acc : List Int), i + d = l.length → acc.length = l.length →
    Ev (fun k => laws_toInt64S.l0 k l acc (i : Int)) (acc.take i ++ l.drop i) := by
  intro d
  induction d with
  | zero =>
    intro i acc hi ha
    refine Ev.succ ?_
    simp (disch := omega) only [laws_toInt64S.l0, if_neg]
    exact Ev.pure (by rw [List.take_of_length_le (by omega), List.drop_of_length_le (by omega), List.append_nil])
  | succ d ih =>
    intro i acc hi ha
    refine Ev.succ ?_
    simp (disch := omega) only [laws_toInt64S.l0, if_pos, w64]
    refine Ev.to (ih (i + 1) (acc.set i (rd l i)) (by omega) (by simpa using ha)) ?_
    rw [take_set_succ _ _ _ (by omega), drop_rd l i (by omega), List.append_assoc]; rfl
theorem laws_toInt64S.ev (l : List Int) (hb : l.length ≤ 17592186044416) : Ev (fun k => laws_toInt64S.f k l) l := by
  simp (disch := omega) only [laws_toInt64S.f, if_pos]
  refine Ev.to (laws_toInt64S.ev0 l hb l.length 0 (List.replicate l.length 0) (by omega) (by simp)) (by simp)

/-! ### laws_toBraid -/
theorem laws_toBraid.ev (n : Int) (l : List Int) (hb : l.length ≤ 17592186044416) : Ev (fun k => laws_toBraid.f k n l) (n, l) := by
  simp only [laws_toBraid.f]
  exact Ev.bind (laws_toInt64S.ev l hb) (Ev.now _)

/-! ### laws_eqInt64S -/
theorem laws_eqInt64S.ev0 (l m : List Int) (hb : l.length ≤ 4611686018427387904) (hlm : l.length = m.length) : ∀ (d i : Nat), i + d = l.length →
    Ev (fun k => laws_eqInt64S.l0 k l m (i : Int)) (decide (l.drop i = m.drop i)) := by
  intro d
  induction d with
  | zero =>
    intro i hi
    refine Ev.succ ?_
    simp (disch := omega) only [laws_eqInt64S.l0, if_neg]
    exact Ev.pure (by rw [List.drop_of_length_le (by omega), List.drop_of_length_le (by omega)]; simp)
  | succ d ih =>
    intro i hi
    refine Ev.succ ?_
    simp (disch := omega) only [laws_eqInt64S.l0, if_pos, w64]
    rw [drop_rd l i (by omega), drop_rd m i (by omega)]
    by_cases h : rd l i = rd m i
    · simp only [if_pos h]
      refine Ev.to (ih (i + 1) (by omega)) (by simp [h])
    · simp only [if_neg h]
      exact Ev.pure (by simp [h])
theorem laws_eqInt64S.ev (l m : List Int) (hb : l.length ≤ 4611686018427387904) : Ev (fun k => laws_eqInt64S.f k l m) (decide (l = m)) := by
  by_cases h : l.length = m.length
  · simp (disch := omega) only [laws_eqInt64S.f, if_pos]
    exact Ev.to (laws_eqInt64S.ev0 l m hb h l.length 0 (by omega)) (by simp)
  · simp (disch := omega) only [laws_eqInt64S.f, if_neg]
    exact Ev.pure (by simp; intro e; exact h (by rw [e]))

/-! ### laws_eqBraid -/
theorem laws_eqBraid.ev (n m : Int) (l s : List Int) (hb : l.length ≤ 4611686018427387904) : Ev (fun k => laws_eqBraid.f k n l m s) (decide (n = m) && decide (l = s)) := by
  simp only [laws_eqBraid.f]
  by_cases h : n = m
  · simp only [if_pos h]
    refine Ev.bind (laws_eqInt64S.ev l s hb) ?_
    by_cases h' : l = s <;> simp [h, h'] <;> exact Ev.now _
  · simp only [if_neg h]
    exact Ev.pure (by simp [h])

/-! ### spec_l01In -/
theorem spec_l01In.eq (a lo hi : Int) : spec_l01In.f a lo hi = some (inB a lo hi) := by
  unfold spec_l01In.f inB
  by_cases h : lo ≤ a <;> simp [h]

/-! ### spec_l01Is -/
theorem spec_l01Is.letter (n x : Int) (h1 : 1 ≤ n) (h8 : n ≤ 8) (hx : -9223372036854775808 ≤ x ∧ x ≤ 9223372036854775807) : (inB x 1 (n - 1) || inB (wrap64 (-x)) 1 (n - 1)) = letterB n x := by
  unfold inB letterB inB wrap64
  rw [Bool.eq_iff_iff]; simp; omega
theorem spec_l01Is.ev0 (n : Int) (l : List Int) (h1 : 1 ≤ n) (h8 : n ≤ 8) (hb : l.length ≤ 200) (hf : Fits l) : ∀ (d i : Nat), i + d = l.length →
    Ev (fun k => spec_l01Is.l0 k (i : Int) n l) ((l.drop i).all (letterB n)) := by
  intro d
  induction d with
  | zero =>
    intro i hi
    refine Ev.succ ?_
    simp (disch := omega) only [spec_l01Is.l0, if_neg]
    exact Ev.pure (by rw [List.drop_of_length_le (by omega)]; rfl)
  | succ d ih =>
    intro i hi
    refine Ev.succ ?_
    have hx := hf (rd l i) (rd_mem l i (by omega))
    have hl := spec_l01Is.letter n (rd l i) h1 h8 hx
    have hw : wrap64 (n - 1) = n - 1 := w64 (by omega) (by omega)
    have hw2 : wrap64 ((i : Int) + 1) = ((i + 1 : Nat) : Int) := w64 (by omega) (by omega)
    simp (disch := omega) only [spec_l01Is.l0, if_pos, hw, hw2, spec_l01In.eq, Option.bind_some]
    rw [drop_rd l i (by omega), List.all_cons, ← hl]
    cases h : inB (rd l i) 1 (n - 1) with
    | true => simp only [if_true, Bool.true_or, Bool.true_and]; exact ih (i + 1) (by omega)
    | false =>
      cases h' : inB (wrap64 (-(rd l i))) 1 (n - 1) with
      | true => simp only [if_true, Bool.false_or, Bool.true_and, Bool.false_eq_true, if_false]; exact ih (i + 1) (by omega)
      | false => exact Ev.pure (by simp)
theorem spec_l01Is.ev (n : Int) (l : List Int) (hf : Fits l) : Ev (fun k => spec_l01Is.f k n l) (isBraidB n l) := by
  simp only [spec_l01Is.f, spec_l01In.eq, Option.bind_some]
  unfold isBraidB
  cases hn : inB n 1 8 with
  | false =>
    refine Ev.succ ?_
    simp [spec_l01Is.j0]
    exact Ev.now _
  | true =>
    obtain ⟨h1, h8⟩ := inB_iff.1 hn
    refine Ev.succ ?_
    simp only [if_true, spec_l01Is.j0, Bool.true_and]
    by_cases hl : l.length ≤ 200
    · have : ¬ ((l.length : Int) > 200) := by omega
      simp only [this, decide_false, Bool.false_eq_true, if_false, hl, decide_true, Bool.true_and]
      exact Ev.to (spec_l01Is.ev0 n l h1 h8 hl hf l.length 0 (by omega)) (by simp)
    · have : ((l.length : Int) > 200) := by omega
      simp only [this, decide_true, if_true, hl, decide_false, Bool.false_and]
      exact Ev.now _

/-! ### spec_l08Prime -/
-- use LibCol
theorem spec_l08Prime.all : ∀ n : Fin 98, 3 ≤ n.val → spec_l08Prime.l0 100 (n.val : Int) 2 = some (primeGo 12 (n.val : Int) 2) := by decide +kernel
theorem spec_l08Prime.ev (p : Int) : Ev (fun k => spec_l08Prime.f k p) (primeB p) := by
  simp only [spec_l08Prime.f, spec_l01In.eq, Option.bind_some]
  unfold primeB
  cases hn : inB p 3 97 with
  | false =>
    simp only [Bool.false_eq_true, if_false, Bool.false_and]
    exact Ev.now _
  | true =>
    obtain ⟨h1, h2⟩ := inB_iff.1 hn
    simp only [if_true, Bool.true_and]
    have h := spec_l08Prime.all ⟨p.toNat, by omega⟩ (by simp only; omega)
    simp only [show ((p.toNat : Nat) : Int) = p by omega] at h
    exact Ev.of (fun k => (spec_l08Prime.mono_l k) _ _) h

/-! ### spec_l01Own -/
theorem spec_l01Own.eq (l : List Int) (h : l.length ≤ 1099511627776) : spec_l01Own.f l = some l := by
  simp only [spec_l01Own.f, Option.bind_some, List.nil_append, List.length_nil]
  rw [if_pos (by omega)]

/-! ### spec_l08Step -/
-- use LibCol
theorem spec_l08Step.ev0 (p : Int) (hp : 3 ≤ p ∧ p ≤ 97) (l : List Int) (hl : l.length ≤ 200) (n : Nat) (hn : n ≤ 8) (hx : ∀ x ∈ l, 1 ≤ absI x ∧ absI x ≤ (n : Int) - 1) : ∀ (d i : Nat) (acc : List Int), i + d = l.length → acc.length = n → InP p acc →
    Ev (fun k => spec_l08Step.l0 k l p acc (i : Int)) (colAll p (l.drop i) acc) := by
  intro d
  induction d with
  | zero =>
    intro i acc hi ha hq
    refine Ev.succ ?_
    have c1 : ¬ (i : Int) < (l.length : Int) := by omega
    simp only [spec_l08Step.l0, if_neg c1]
    exact Ev.pure (by rw [List.drop_of_length_le (by omega)]; rfl)
  | succ d ih =>
    intro i acc hi ha hq
    refine Ev.succ ?_
    have hxi := hx _ (rd_mem l i (by omega))
    have hnext := ih (i + 1) (colStep p acc (rd l (i : Int))) (by omega) (by rw [colStep_length]; exact ha) (colStep_InP hp.1 hq (by omega))
    have hab := absI_eq (rd l (i : Int))
    have hm := mx_abs (rd l (i : Int)) (by split at hab <;> omega)
    rw [drop_rd l i (by omega), colAll]
    unfold colStep at hnext ⊢
    generalize hv : absI (rd l (i : Int)) = v at hnext hxi hab hm ⊢
    obtain ⟨m, rfl⟩ : ∃ m : Nat, v = (m : Int) + 1 := ⟨(v - 1).toNat, by omega⟩
    have em : ((m : Int) + 1 - 1).toNat = m := by omega
    have em1 : ((m : Int) + 1).toNat = m + 1 := by omega
    have q1 := hq.rd m (by omega)
    have q2 := hq.rd (m + 1) (by omega)
    rw [Int.natCast_add, Int.natCast_one] at q2
    have c1 : (i : Int) < (l.length : Int) := by omega
    have c2 : 0 ≤ (i : Int) := by omega
    have w0 := Aside0.mk (show wrap64 ((m : Int) + 1 - 1) = (m : Int) from (w64 (by omega) (by omega)).trans (by omega))
    have c3 : 0 ≤ (m : Int) := by omega
    have c4 : (m : Int) < (acc.length : Int) := by omega
    have c5 : 0 ≤ (m : Int) + 1 := by omega
    have c6 : (m : Int) + 1 < (acc.length : Int) := by omega
    have w1 := Aside0.mk (w64 (x := (i : Int) + 1) (by omega) (by omega))
    have c7 : ¬ p = 0 := by omega
    simp only [em] at hnext ⊢
    by_cases hs : rd l (i : Int) > 0
    · have w2 := Aside0.mk (w64 (x := 2 * rd acc (m : Int)) (by omega) (by omega))
      have w3 := Aside0.mk (w64 (x := 2 * rd acc (m : Int) - rd acc ((m : Int) + 1)) (by omega) (by omega))
      have w4 := Aside0.mk (w64 (x := 2 * rd acc (m : Int) - rd acc ((m : Int) + 1) + p) (by omega) (by omega))
      simp only [if_pos hs] at hnext ⊢
      simp only [spec_l08Step.l0, if_pos c1, if_pos c2, hm, w0.out, if_pos c3, if_pos c4, if_pos c5, if_pos c6, if_pos hs, if_neg c7, w2.out, w3.out, w4.out, w1.out, em1, Int.toNat_natCast]
      exact hnext
    · have w2 := Aside0.mk (w64 (x := 2 * rd acc ((m : Int) + 1)) (by omega) (by omega))
      have w3 := Aside0.mk (w64 (x := 2 * rd acc ((m : Int) + 1) - rd acc (m : Int)) (by omega) (by omega))
      have w4 := Aside0.mk (w64 (x := 2 * rd acc ((m : Int) + 1) - rd acc (m : Int) + p) (by omega) (by omega))
      simp only [if_neg hs] at hnext ⊢
      simp only [spec_l08Step.l0, if_pos c1, if_pos c2, hm, w0.out, if_pos c3, if_pos c4, if_pos c5, if_pos c6, if_neg hs, if_neg c7, w2.out, w3.out, w4.out, w1.out, em1, Int.toNat_natCast]
      exact hnext
theorem spec_l08Step.ev (n : Int) (l : List Int) (p : Int) (c : List Int) (h : codeM n l p c = 0) : Ev (fun k => spec_l08Step.f k l p c) (colAll p l c) := by
  obtain ⟨h1, h2, h3, h4⟩ := codeM_zero h
  obtain ⟨hn, hl, hx⟩ := isBraidB_iff.1 h1
  have hp := primeB_range h2
  have hx' : ∀ x ∈ l, 1 ≤ absI x ∧ absI x ≤ (c.length : Int) - 1 := fun x hx' => by
    have := hx x hx'
    rw [absI_eq]; split <;> omega
  simp only [spec_l08Step.f, spec_l01Own.eq c (by omega), Option.bind_some]
  exact spec_l08Step.ev0 p hp l hl c.length (by omega) hx' l.length 0 c (by omega) rfl (inAll_InP h4)

/-! ### impl_within -/
theorem impl_within.eq (a lo hi : Int) : impl_within.f a lo hi = some (inB a lo hi) := by
  unfold impl_within.f inB
  by_cases h : lo ≤ a <;> simp [h]

/-! ### impl_isCount -/
theorem impl_isCount.eq (a : Int) : impl_isCount.f a = some (inB a 1 8) := by simp only [impl_isCount.f, impl_within.eq, Option.bind_some]

/-! ### impl_isLetter -/
theorem impl_isLetter.eq (x n : Int) (h1 : 1 ≤ n) (h8 : n ≤ 8) : impl_isLetter.f x n = some (letterB n x) := by
  simp (disch := omega) only [impl_isLetter.f, impl_within.eq, Option.bind_some, w64]
  unfold letterB
  split <;> simp_all

/-! ### impl_IsBraid -/
theorem impl_IsBraid.ev0 (n : Int) (l : List Int) (h1 : 1 ≤ n) (h8 : n ≤ 8) (hb : l.length ≤ 200) : ∀ (d i : Nat), i + d = l.length →
    Ev (fun k => impl_IsBraid.l0 k l (l.length : Int) (i : Int) n l) ((l.drop i).all (letterB n)) := by
  intro d
  induction d with
  | zero =>
    intro i hi
    refine Ev.succ ?_
    simp (disch := omega) only [impl_IsBraid.l0, if_neg]
    exact Ev.pure (by rw [List.drop_of_length_le (by omega)]; rfl)
  | succ d ih =>
    intro i hi
    refine Ev.succ ?_
    simp (disch := omega) only [impl_IsBraid.l0, if_pos, w64, impl_isLetter.eq, Option.bind_some]
    rw [drop_rd l i (by omega), List.all_cons]
    cases h : letterB n (rd l i) with
    | true => simp only [if_true, Bool.true_and]; exact ih (i + 1) (by omega)
    | false => exact Ev.pure (by simp)
theorem impl_IsBraid.ev (n : Int) (l : List Int) : Ev (fun k => impl_IsBraid.f k n l) (isBraidB n l) := by
  simp only [impl_IsBraid.f, impl_isCount.eq, Option.bind_some]
  unfold isBraidB
  cases hn : inB n 1 8 with
  | false =>
    refine Ev.succ ?_
    simp [impl_IsBraid.j0]
    exact Ev.now _
  | true =>
    obtain ⟨h1, h8⟩ := inB_iff.1 hn
    refine Ev.succ ?_
    simp only [if_true, impl_IsBraid.j0, Bool.true_and]
    by_cases hl : l.length ≤ 200
    · have : ¬ ((l.length : Int) > 200) := by omega
      simp only [this, decide_false, Bool.false_eq_true, if_false, hl, decide_true, Bool.true_and]
      exact Ev.to (impl_IsBraid.ev0 n l h1 h8 hl l.length 0 (by omega)) (by simp)
    · have : ((l.length : Int) > 200) := by omega
      simp only [this, decide_true, if_true, hl, decide_false, Bool.false_and]
      exact Ev.now _

/-! ### impl_isPrime -/
-- use LibCol
theorem impl_isPrime.all : ∀ n : Fin 98, 3 ≤ n.val → impl_isPrime.l0 100 (n.val : Int) 2 = some (primeGo 12 (n.val : Int) 2) := by decide +kernel
theorem impl_isPrime.ev (p : Int) : Ev (fun k => impl_isPrime.f k p) (primeB p) := by
  simp only [impl_isPrime.f, impl_within.eq, Option.bind_some]
  unfold primeB
  cases hn : inB p 3 97 with
  | false =>
    simp only [Bool.false_eq_true, if_false, Bool.false_and]
    exact Ev.now _
  | true =>
    obtain ⟨h1, h2⟩ := inB_iff.1 hn
    simp only [if_true, Bool.true_and]
    have h := impl_isPrime.all ⟨p.toNat, by omega⟩ (by simp only; omega)
    simp only [show ((p.toNat : Nat) : Int) = p by omega] at h
    exact Ev.of (fun k => (impl_isPrime.mono_l k) _ _) h

/-! ### impl_size -/
theorem impl_size.eq (x : Int) (h : -4611686018427387904 ≤ x ∧ x ≤ 4611686018427387904) : impl_size.f x = some (absI x) := by
  have e : wrap64 (-x) = -x := w64 (by omega) (by omega)
  simp only [impl_size.f, e, absI]

/-! ### impl_copyOf -/
theorem impl_copyOf.eq (l : List Int) (h : l.length ≤ 1099511627776) : impl_copyOf.f l = some l := by
  simp only [impl_copyOf.f, Option.bind_some, List.nil_append, List.length_nil]
  rw [if_pos (by omega)]

/-! ### impl_colour -/
-- use LibCol
theorem impl_colour.ev0 (p : Int) (hp : 3 ≤ p ∧ p ≤ 97) (l : List Int) (hl : l.length ≤ 200) (n : Nat) (hn : n ≤ 8) (hx : ∀ x ∈ l, 1 ≤ absI x ∧ absI x ≤ (n : Int) - 1) : ∀ (d i : Nat) (acc : List Int), i + d = l.length → acc.length = n → InP p acc →
    Ev (fun k => impl_colour.l0 k p acc l (l.length : Int) (i : Int)) (colAll p (l.drop i) acc) := by
  intro d
  induction d with
  | zero =>
    intro i acc hi ha hq
    refine Ev.succ ?_
    have c1 : ¬ (i : Int) < (l.length : Int) := by omega
    simp only [impl_colour.l0, if_neg c1]
    exact Ev.pure (by rw [List.drop_of_length_le (by omega)]; rfl)
  | succ d ih =>
    intro i acc hi ha hq
    refine Ev.succ ?_
    have hxi := hx _ (rd_mem l i (by omega))
    have hnext := ih (i + 1) (colStep p acc (rd l (i : Int))) (by omega) (by rw [colStep_length]; exact ha) (colStep_InP hp.1 hq (by omega))
    have hab := absI_eq (rd l (i : Int))
    have hm := impl_size.eq (rd l (i : Int)) (by split at hab <;> omega)
    rw [drop_rd l i (by omega), colAll]
    unfold colStep at hnext ⊢
    generalize hv : absI (rd l (i : Int)) = v at hnext hxi hab hm ⊢
    obtain ⟨m, rfl⟩ : ∃ m : Nat, v = (m : Int) + 1 := ⟨(v - 1).toNat, by omega⟩
    have em : ((m : Int) + 1 - 1).toNat = m := by omega
    have em1 : ((m : Int) + 1).toNat = m + 1 := by omega
    have q1 := hq.rd m (by omega)
    have q2 := hq.rd (m + 1) (by omega)
    rw [Int.natCast_add, Int.natCast_one] at q2
    have c1 : (i : Int) < (l.length : Int) := by omega
    have c2 : 0 ≤ (i : Int) := by omega
    have w0 := Aside0.mk (show wrap64 ((m : Int) + 1 - 1) = (m : Int) from (w64 (by omega) (by omega)).trans (by omega))
    have c3 : 0 ≤ (m : Int) := by omega
    have c4 : (m : Int) < (acc.length : Int) := by omega
    have c5 : 0 ≤ (m : Int) + 1 := by omega
    have c6 : (m : Int) + 1 < (acc.length : Int) := by omega
    have w1 := Aside0.mk (w64 (x := (i : Int) + 1) (by omega) (by omega))
    have c7 : ¬ p = 0 := by omega
    simp only [em] at hnext ⊢
    by_cases hs : rd l (i : Int) > 0
    · have w2 := Aside0.mk (w64 (x := 2 * rd acc (m : Int)) (by omega) (by omega))
      have w3 := Aside0.mk (w64 (x := 2 * rd acc (m : Int) - rd acc ((m : Int) + 1)) (by omega) (by omega))
      have w4 := Aside0.mk (w64 (x := 2 * rd acc (m : Int) - rd acc ((m : Int) + 1) + p) (by omega) (by omega))
      simp only [if_pos hs] at hnext ⊢
      simp only [impl_colour.l0, if_pos c1, if_pos c2, hm, Option.bind_some, w0.out, if_pos c3, if_pos c4, if_pos c5, if_pos c6, if_pos hs, if_neg c7, w2.out, w3.out, w4.out, w1.out, em1, Int.toNat_natCast]
      exact hnext
    · have w2 := Aside0.mk (w64 (x := 2 * rd acc ((m : Int) + 1)) (by omega) (by omega))
      have w3 := Aside0.mk (w64 (x := 2 * rd acc ((m : Int) + 1) - rd acc (m : Int)) (by omega) (by omega))
      have w4 := Aside0.mk (w64 (x := 2 * rd acc ((m : Int) + 1) - rd acc (m : Int) + p) (by omega) (by omega))
      simp only [if_neg hs] at hnext ⊢
      simp only [impl_colour.l0, if_pos c1, if_pos c2, hm, Option.bind_some, w0.out, if_pos c3, if_pos c4, if_pos c5, if_pos c6, if_neg hs, if_neg c7, w2.out, w3.out, w4.out, w1.out, em1, Int.toNat_natCast]
      exact hnext
theorem impl_colour.ev (n : Int) (l : List Int) (p : Int) (c : List Int) (h : codeM n l p c = 0) : Ev (fun k => impl_colour.f k l p c) (colAll p l c) := by
  obtain ⟨h1, h2, h3, h4⟩ := codeM_zero h
  obtain ⟨hn, hl, hx⟩ := isBraidB_iff.1 h1
  have hp := primeB_range h2
  have hx' : ∀ x ∈ l, 1 ≤ absI x ∧ absI x ≤ (c.length : Int) - 1 := fun x hx' => by
    have := hx x hx'
    rw [absI_eq]; split <;> omega
  simp only [impl_colour.f, impl_copyOf.eq c (by omega), Option.bind_some]
  exact impl_colour.ev0 p hp l hl c.length (by omega) hx' l.length 0 c (by omega) rfl (inAll_InP h4)

/-! ### impl_inverseModulo -/
-- use LibChar
theorem impl_inverseModulo.ev0 (f : Nat) : ∀ (out sq e : Int), (0 ≤ out ∧ out ≤ 10006) → (0 ≤ sq ∧ sq ≤ 10006) → 0 ≤ e → e < 2 ^ f → e ≤ 100000 →
    Ev (fun k => impl_inverseModulo.l0 k sq 10007 out e) (invGo f out sq e) := by
  induction f with
  | zero =>
    intro out sq e _ _ h0 h1 _
    refine Ev.succ ?_
    have h1' : e < 1 := h1
    have c1 : ¬ e > 0 := by omega
    simp only [impl_inverseModulo.l0, if_neg c1]
    exact Ev.now _
  | succ f ih =>
    intro out sq e ho hs h0 h1 h2
    refine Ev.succ ?_
    obtain ⟨q0, q1, q2⟩ := half_lt h0 h1
    have m1 := fm_bound (a := 0) (by omega) ho hs
    have m2 := fm_bound (a := 0) (by omega) hs hs
    have w1 := Aside0.mk (w64 (x := out * sq) (by omega) (by omega))
    have w2 := Aside0.mk (w64 (x := sq * sq) (by omega) (by omega))
    have w3 := Aside0.mk (w64 (x := Int.tdiv e 2) (by omega) (by omega))
    have c0 : ¬ (10007 : Int) = 0 := by omega
    by_cases c1 : e > 0
    · by_cases c2 : Int.tmod e 2 = 1
      · simp only [impl_inverseModulo.l0, invGo, if_pos c1, if_pos c2, if_neg c0, w1.out, w2.out, w3.out]
        exact ih _ _ _ (tm_range m1.1) (tm_range m2.1) q0 q1 (by omega)
      · simp only [impl_inverseModulo.l0, invGo, if_pos c1, if_neg c2, if_neg c0, w2.out, w3.out]
        exact ih _ _ _ ho (tm_range m2.1) q0 q1 (by omega)
    · simp only [impl_inverseModulo.l0, invGo, if_neg c1]
      exact Ev.now _
theorem impl_inverseModulo.ev (x : Int) (h : 0 ≤ x ∧ x ≤ 10006) : Ev (fun k => impl_inverseModulo.f k x 10007) (invM x) := by
  have w : wrap64 ((10007 : Int) - 2) = 10005 := w64 (by omega) (by omega)
  simp only [impl_inverseModulo.f, w]
  exact impl_inverseModulo.ev0 14 1 x 10005 (by omega) h (by omega) (by decide) (by omega)

-- says For every braid-shaped input and every number the program's CountColourings returns what the reference's returns and leaves its arguments alone; no conditions.
-- row braid int
-- use LibCol
-- use LibRank
theorem inv_all : ∀ p : Fin 98, 3 ≤ p.val → primeGo 12 (p.val : Int) 2 = true → ∀ x : Fin 98, 1 ≤ x.val → x.val < p.val →
    impl_inverseModulo.f 100 (x.val : Int) (p.val : Int) = some (rk2.invP (p.val : Int) (x.val : Int)) := by decide +kernel
theorem inv_ev {p : Int} (h : primeB p = true) (x : Int) (hx : 1 ≤ x ∧ x ≤ p - 1) : Ev (fun k => impl_inverseModulo.f k x p) (rk2.invP p x) := by
  have hp := primeB_range h
  simp only [primeB, Bool.and_eq_true] at h
  have := inv_all ⟨p.toNat, by omega⟩ (by simp only; omega) (by simp only [show ((p.toNat : Nat) : Int) = p by omega]; exact h.2) ⟨x.toNat, by omega⟩ (by simp only; omega) (by simp only; omega)
  simp only [show ((p.toNat : Nat) : Int) = p by omega, show ((x.toNat : Nat) : Int) = x by omega] at this
  exact Ev.of (fun k => impl_inverseModulo.mono x p k) this
open Go.Proofs.Ytcbomfkimohlfaa.LibMx Go.Proofs.Ytcbomfkimohlfaa.LibRk in
theorem count_law (n : Int) (l : List Int) (p : Int) (hf : Fits l) : ∃ r : Int × Int, Ev (fun k => spec_CountColourings.f k n l p) r ∧ Ev (fun k => impl_CountColourings.f k n l p) r := by
  by_cases hb : isBraidB n l = true
  · by_cases hq : primeB p = true
    · have hp := primeB_range hq
      obtain ⟨hn, hl, hx⟩ := isBraidB_iff.1 hb
      have hc : (1 ≤ n ∧ n ≤ 8) ∧ (3 ≤ p ∧ p ≤ 97) := ⟨hn, hp⟩
      have hx' : ∀ x ∈ l, 1 ≤ absI x ∧ absI x ≤ (n.toNat : Int) - 1 := fun x h => by
        have := hx x h
        rw [absI_eq]; split <;> omega
      have hcode : ∀ u : List Int, u.length = n.toNat → inAll p u = true → codeM n l p u = 0 := fun u h1 h2 => by
        unfold codeM
        rw [if_pos hb, if_pos hq, if_pos (by omega), if_pos h2]
      obtain ⟨R, e1, e2, r1, r2⟩ := rk2.rows_ev (fun k u => spec_l08Step.f k l p u) (fun k u => impl_colour.f k l p u) l p hp n.toNat hx' (fun u h1 h2 => spec_l08Step.ev n l p u (hcode u h1 h2)) (fun u h1 h2 => impl_colour.ev n l p u (hcode u h1 h2))
        n.toNat 0 [] (by omega) (by omega) rfl (by simp)
      obtain ⟨hS, hF⟩ := rk2.FP_of r1 r2
      rw [← r1] at hS
      have hg : iv.Sq R.length R ∧ (1 ≤ R.length ∧ R.length ≤ 8) ∧ (3 ≤ p ∧ p ≤ 97) := ⟨hS, by omega, hp⟩
      obtain ⟨r, f1, f2⟩ := rk2.lock (fun k x => rk.sr p k x 1) (fun k x => impl_inverseModulo.f k x p) (rk2.invP p) p hp R.length (fun x h => (rk2.sr_ev hq x h).1) (fun x h => inv_ev hq x h) (fun x h => (rk2.sr_ev hq x h).2) R.length 0 0 R hS hF (by omega) (by omega) (by omega)
      refine ⟨(wrap64 (n - r), 0), ?_, ?_⟩
      · simp only [spec_CountColourings.f]
        refine Ev.bind (spec_l01Is.ev n l hf) ?_
        simp only [if_pos hb]
        refine Ev.bind (spec_l08Prime.ev p) ?_
        simp only [if_pos hq, if_pos hc]
        refine Ev.bind e1 ?_
        simp only [spec_l08Rank.f, if_pos hg]
        exact Ev.bind f1 (Ev.now _)
      · simp only [impl_CountColourings.f]
        refine Ev.bind (impl_IsBraid.ev n l) ?_
        simp only [if_pos hb]
        refine Ev.bind (impl_isPrime.ev p) ?_
        simp only [if_pos hq, if_pos hc]
        refine Ev.bind e2 ?_
        simp only [impl_rankModulo.f, if_pos hg]
        exact Ev.bind f2 (Ev.now _)
    · refine ⟨(0, 2), ?_, ?_⟩
      · simp only [spec_CountColourings.f]
        refine Ev.bind (spec_l01Is.ev n l hf) ?_
        simp only [if_pos hb]
        refine Ev.bind (spec_l08Prime.ev p) ?_
        simp only [if_neg hq]; exact Ev.now _
      · simp only [impl_CountColourings.f]
        refine Ev.bind (impl_IsBraid.ev n l) ?_
        simp only [if_pos hb]
        refine Ev.bind (impl_isPrime.ev p) ?_
        simp only [if_neg hq]; exact Ev.now _
  · refine ⟨(0, 1), ?_, ?_⟩
    · simp only [spec_CountColourings.f]
      refine Ev.bind (spec_l01Is.ev n l hf) ?_
      simp only [if_neg hb]; exact Ev.now _
    · simp only [impl_CountColourings.f]
      refine Ev.bind (impl_IsBraid.ev n l) ?_
      simp only [if_neg hb]; exact Ev.now _
theorem law (n : Int) (l : List Int) (p : Int) (hl : l.length ≤ maxLen) (hw : ∀ x ∈ l, (Lit.int .i64 x).wf = true) (_hp : (Lit.int .i64 p).wf = true) : ∃ k, laws_FnExactCountColourings.f k n l p = some true := by
  have hf := Fits.of hw
  have hsz := laws_szBraid.eq n l 1048576 (by omega) (by omega) hl
  by_cases hz : (1048576 : Int) - l.length < 0
  · rw [if_pos hz] at hsz
    exact ⟨0, by simp only [laws_FnExactCountColourings.f, hsz, Option.bind_some]; rfl⟩
  rw [if_neg hz] at hsz
  obtain ⟨⟨r, c⟩, h2, h3⟩ := count_law n l p hf
  have h1 := laws_toBraid.ev n l (by omega)
  have h4 := laws_eqBraid.ev n n l l (by omega)
  refine Ev.rounds ?_
  simp only [laws_FnExactCountColourings.f, hsz, Option.bind_some, if_neg hz]
  (try simp only [laws_FnExactCountColourings.f])
  repeat (first | (with_reducible refine Ev.bind h1 ?_; (try dsimp only)) | (with_reducible refine Ev.bind h2 ?_; (try dsimp only)) | (with_reducible refine Ev.bind h3 ?_; (try dsimp only)) | (with_reducible refine Ev.bind h4 ?_; (try dsimp only)) | (simp only [if_true, if_false, eq_self, decide_true, decide_false, Bool.and_self, Bool.true_and, Bool.and_true, bne_self_eq_false, Bool.not_true, Bool.not_false, Bool.false_eq_true, reduceCtorEq, iota_length]))
  refine Ev.succ ?_
  simp only [laws_FnExactCountColourings.j0]
  repeat (first | (with_reducible refine Ev.bind h1 ?_; (try dsimp only)) | (with_reducible refine Ev.bind h2 ?_; (try dsimp only)) | (with_reducible refine Ev.bind h3 ?_; (try dsimp only)) | (with_reducible refine Ev.bind h4 ?_; (try dsimp only)) | (simp only [if_true, if_false, eq_self, decide_true, decide_false, Bool.and_self, Bool.true_and, Bool.and_true, bne_self_eq_false, Bool.not_true, Bool.not_false, Bool.false_eq_true, reduceCtorEq, iota_length]))
  exact Ev.now _

end Go.Proofs.Ytcbomfkimohlfaa.PureFnExactCountColourings
