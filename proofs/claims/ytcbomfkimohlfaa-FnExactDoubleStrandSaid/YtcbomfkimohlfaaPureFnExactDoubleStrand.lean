/- For every braid-shaped input and every number the program's DoubleStrand returns what the reference's returns, keeps its argument and shares no memory; no conditions. -/
import Derived.Test.YtcbomfkimohlfaaMFnExactDoubleStrandx4
import Derived.Test.YtcbomfkimohlfaaLib
import Derived.Test.YtcbomfkimohlfaaLibStrand
set_option linter.unusedVariables false
set_option linter.unusedSimpArgs false
set_option maxRecDepth 10000
set_option maxHeartbeats 4000000
namespace Go.Proofs.Ytcbomfkimohlfaa.PureFnExactDoubleStrand
open Go.RowKit Go.Proofs.Ytcbomfkimohlfaa.MFnExactDoubleStrand Go.Proofs.YtcbomfkimohlfaaW.PrintWords Go.Proofs.Ytcbomfkimohlfaa.Lib

/-! ### laws_szInt64S -/
theorem laws_szInt64S.eq (l : List Int) (x : Int) (h0 : 0 ≤ x) (h1 : x ≤ 1048576) (hl : l.length ≤ maxLen) : laws_szInt64S.f l x = some (if x - l.length < 0 then -1 else x - l.length) := by
  unfold maxLen at hl
  simp (disch := omega) only [laws_szInt64S.f, w64]
  split <;> rfl

/-! ### laws_szBraid -/
theorem laws_szBraid.eq (n : Int) (l : List Int) (x : Int) (h0 : 0 ≤ x) (h1 : x ≤ 1048576) (hl : l.length ≤ maxLen) : laws_szBraid.f n l x = some (if x - l.length < 0 then -1 else x - l.length) := by
  simp (disch := assumption) only [laws_szBraid.f, laws_szInt64S.eq, Option.bind_some]
  by_cases h : x - l.length < 0
  · simp [h]
  · simp [h]

/-! ### spec_l01In -/
theorem spec_l01In.eq (a lo hi : Int) : spec_l01In.f a lo hi = some (inB a lo hi) := by
  unfold spec_l01In.f inB
  by_cases h : lo ≤ a <;> simp [h]

/-! ### spec_l01Is -/
theorem spec_l01Is.letter (n x : Int) (h1 : 1 ≤ n) (h8 : n ≤ 8) (hx : -9223372036854775808 ≤ x ∧ x ≤ 9223372036854775807) : (inB x 1 (n - 1) || inB (wrap64 (-x)) 1 (n - 1)) = letterB n x := by
  unfold inB letterB inB wrap64
  rw [Bool.eq_iff_iff]; simp; omega
theorem spec_l01Is.ev0 (n : Int) (l : List Int) (h1 : 1 ≤ n) (h8 : n ≤ 8) (hb : l.length ≤ 200) (hf : Fits l) : ∀ (d i : Nat), i + d = l.length →
    Ev (fun k => spec_l01Is.l0 k (i : Int) n l) ((l.drop i).all (letterB n)) := by
  intro d
  induction d with
  | zero =>
    intro i hi
    refine Ev.succ ?_
    simp (disch := omega) only [spec_l01Is.l0, if_neg]
    exact Ev.pure (by rw [List.drop_of_length_le (by omega)]; rfl)
  | succ d ih =>
    intro i hi
    refine Ev.succ ?_
    have hx := hf (rd l i) (rd_mem l i (by omega))
    have hl := spec_l01Is.letter n (rd l i) h1 h8 hx
    have hw : wrap64 (n - 1) = n - 1 := w64 (by omega) (by omega)
    have hw2 : wrap64 ((i : Int) + 1) = ((i + 1 : Nat) : Int) := w64 (by omega) (by omega)
    simp (disch := omega) only [spec_l01Is.l0, if_pos, hw, hw2, spec_l01In.eq, Option.bind_some]
    rw [drop_rd l i (by omega), List.all_cons, ← hl]
    cases h : inB (rd l i) 1 (n - 1) with
    | true => simp only [if_true, Bool.true_or, Bool.true_and]; exact ih (i + 1) (by omega)
    | false =>
      cases h' : inB (wrap64 (-(rd l i))) 1 (n - 1) with
      | true => simp only [if_true, Bool.false_or, Bool.true_and, Bool.false_eq_true, if_false]; exact ih (i + 1) (by omega)
      | false => exact Ev.pure (by simp)
theorem spec_l01Is.ev (n : Int) (l : List Int) (hf : Fits l) : Ev (fun k => spec_l01Is.f k n l) (isBraidB n l) := by
  simp only [spec_l01Is.f, spec_l01In.eq, Option.bind_some]
  unfold isBraidB
  cases hn : inB n 1 8 with
  | false =>
    refine Ev.succ ?_
    simp [spec_l01Is.j0]
    exact Ev.now _
  | true =>
    obtain ⟨h1, h8⟩ := inB_iff.1 hn
    refine Ev.succ ?_
    simp only [if_true, spec_l01Is.j0, Bool.true_and]
    by_cases hl : l.length ≤ 200
    · have : ¬ ((l.length : Int) > 200) := by omega
      simp only [this, decide_false, Bool.false_eq_true, if_false, hl, decide_true, Bool.true_and]
      exact Ev.to (spec_l01Is.ev0 n l h1 h8 hl hf l.length 0 (by omega)) (by simp)
    · have : ((l.length : Int) > 200) := by omega
      simp only [this, decide_true, if_true, hl, decide_false, Bool.false_and]
      exact Ev.now _

/-! ### spec_DoubleStrand -/
-- use LibStrand
theorem spec_DoubleStrand.ev0 (n : Int) (l : List Int) (hn : 1 ≤ n ∧ n ≤ 8) (hb : l.length ≤ 200) (hl : ∀ y ∈ l, y ≠ 0 ∧ -7 ≤ y ∧ y ≤ 7) : ∀ (d i : Nat) (acc : List Int) (p : Int), i + d = l.length → 0 ≤ p → p ≤ 7 → acc.length ≤ 2 * i →
    Ev (fun k => spec_DoubleStrand.l0 k acc p (i : Int) n l) (if ((acc ++ doubleGo p (l.drop i)).length : Int) > 200 then (0, [], 3) else (n + 1, acc ++ doubleGo p (l.drop i), 0)) := by
  intro d
  induction d with
  | zero =>
    intro i acc p hi h0 h7 ha
    refine Ev.succ ?_
    have w1 := Aside0.mk (w64 (x := n + 1) (by omega) (by omega))
    have c1 : ¬ (i : Int) < (l.length : Int) := by omega
    simp only [spec_DoubleStrand.l0, if_neg c1, w1.out]
    rw [drop_len _ _ (by omega)]
    simp only [doubleGo, List.append_nil]
    split <;> exact Ev.now _
  | succ d ih =>
    intro i acc p hi h0 h7 ha
    have hy := hl _ (rd_mem l i (by omega))
    have hk1 := absI_pos hy.1
    have hk7 := absI_bd hy.2
    have W := Aside0.mk (w64 (x := -rd l (i : Int)) (by omega) (by omega))
    have hw2 := Aside0.mk (w64 (x := (i : Int) + 1) (by omega) (by omega))
    have hwp := Aside0.mk (w64 (x := p + 1) (by omega) (by omega))
    have hwp2 := Aside0.mk (w64 (x := p + 2) (by omega) (by omega))
    have hwm := Aside0.mk (w64 (x := p - 1) (by omega) (by omega))
    have hwk := Aside0.mk (w64 (x := absI (rd l (i : Int)) + 1) (by omega) (by omega))
    have c1 : (i : Int) < (l.length : Int) := by omega
    have c2 : 0 ≤ (i : Int) := by omega
    have c3 : acc.length < 17592186044416 := by omega
    have c4 : acc.length + (0 + 1 + 1) < 17592186044416 := by omega
    have hs := Aside0.mk (sgn_abs hy.1)
    have hs2 := Aside0.mk (sgn_abs2 hy.1)
    have hsb := sgn_cases (rd l (i : Int))
    have hws := Aside0.mk (w64 (x := rd l (i : Int) + sgnI (rd l (i : Int))) (by omega) (by omega))
    have hwy := Aside0.mk (w64 (x := rd l (i : Int)) (by omega) (by omega))
    have m1 := Aside0.mk (w64 (x := sgnI (rd l (i : Int)) * p) (by rcases hsb with e | e <;> rw [e] <;> omega) (by rcases hsb with e | e <;> rw [e] <;> omega))
    have m2 := Aside0.mk (w64 (x := sgnI (rd l (i : Int)) * (p + 1)) (by rcases hsb with e | e <;> rw [e] <;> omega) (by rcases hsb with e | e <;> rw [e] <;> omega))
    have m3 := Aside0.mk (w64 (x := sgnI (rd l (i : Int)) * (p + 2)) (by rcases hsb with e | e <;> rw [e] <;> omega) (by rcases hsb with e | e <;> rw [e] <;> omega))
    have key : Ev (fun k => spec_DoubleStrand.j1 k acc p (i : Int) (absI (rd l (i : Int))) (sgnI (rd l (i : Int))) n l) (if ((acc ++ doubleGo p (l.drop i)).length : Int) > 200 then (0, [], 3) else (n + 1, acc ++ doubleGo p (l.drop i), 0)) := by
      refine Ev.succ ?_
      rw [drop_rd l i (by omega)]
      simp only [spec_DoubleStrand.j1, doubleGo, hwp.out, hwp2.out, hwm.out, hw2.out, hwk.out, hs.out, hs2.out, hws.out, hwy.out, m1.out, m2.out, m3.out, if_pos c1, if_pos c2, if_pos c3, if_pos c4, Option.bind_some, List.length_cons, List.length_nil]
      by_cases e1 : absI (rd l (i : Int)) = p
      · simp only [if_pos e1]
        exact Ev.to (ih (i + 1) (acc ++ [sgnI (rd l (i : Int)) * p, sgnI (rd l (i : Int)) * (p + 1)]) (p - 1) (by omega) (by omega) (by omega) (by simp; omega)) (by rw [List.append_assoc]; rfl)
      · simp only [if_neg e1]
        by_cases e2 : absI (rd l (i : Int)) = p + 1
        · simp only [if_pos e2]
          exact Ev.to (ih (i + 1) (acc ++ [sgnI (rd l (i : Int)) * (p + 2), sgnI (rd l (i : Int)) * (p + 1)]) (p + 1) (by omega) (by omega) (by omega) (by simp; omega)) (by rw [List.append_assoc]; rfl)
        · simp only [if_neg e2]
          by_cases e3 : absI (rd l (i : Int)) < p
          · simp only [if_pos e3]
            exact Ev.to (ih (i + 1) (acc ++ [rd l (i : Int)]) p (by omega) h0 h7 (by simp; omega)) (by rw [List.append_assoc]; rfl)
          · simp only [if_neg e3]
            exact Ev.to (ih (i + 1) (acc ++ [rd l (i : Int) + sgnI (rd l (i : Int))]) p (by omega) h0 h7 (by simp; omega)) (by rw [List.append_assoc]; rfl)
    have ha : mx (rd l (i : Int)) (-rd l (i : Int)) = absI (rd l (i : Int)) := rfl
    refine Ev.succ ?_
    simp only [spec_DoubleStrand.l0, if_pos c1, if_pos c2, W.out, ha]
    have hlt := sgn_lt hy.1
    by_cases h : rd l (i : Int) < 0
    · rw [if_pos h] at hlt
      simp only [if_pos h, hlt] at key ⊢; exact key
    · rw [if_neg h] at hlt
      simp only [if_neg h, hlt] at key ⊢; exact key
theorem spec_DoubleStrand.ev (n : Int) (l : List Int) (x : Int) (hf : Fits l) : Ev (fun k => spec_DoubleStrand.f k n l x) (doubleM n l x) := by
  simp only [spec_DoubleStrand.f]
  refine Ev.bind (spec_l01Is.ev n l hf) ?_
  unfold doubleM
  by_cases h : isBraidB n l = true
  · obtain ⟨hn, hl, _⟩ := isBraidB_iff.1 h
    have w1 := Aside0.mk (w64 (x := n - 1) (by omega) (by omega))
    simp only [if_pos h, w1.out, spec_l01In.eq, Option.bind_some]
    by_cases h3 : 0 ≤ x ∧ x ≤ n - 1
    · have e : inB x 0 (n - 1) = true := inB_iff.2 h3
      simp only [e, if_true, if_pos h3]
      by_cases h8 : n = 8
      · simp only [if_pos h8]; exact Ev.now _
      · simp only [if_neg h8]
        exact Ev.to (spec_DoubleStrand.ev0 n l hn hl (braid_letters h) l.length 0 [] x (by omega) h3.1 (by omega) (by simp)) (by simp only [List.nil_append, List.drop_zero])
    · have e : inB x 0 (n - 1) = false := inB_not.2 h3
      simp only [e, Bool.false_eq_true, if_false, if_neg h3]
      exact Ev.now _
  · simp only [if_neg h]
    exact Ev.now _

/-! ### laws_toInt64S -/
theorem laws_toInt64S.ev0 (l : List Int) (hb : l.length ≤ 17592186044416) : ∀ (d i : Nat) (acc : List Int), i + d = l.length → acc.length = l.length →
    Ev (fun k => laws_toInt64S.l0 k l acc (i : Int)) (acc.take i ++ l.drop i) := by
  intro d
  induction d with
  | zero =>
    intro i acc hi ha
    refine Ev.succ ?_
    simp (disch := omega) only [laws_toInt64S.l0, if_neg]
    exact Ev.pure (by rw [List.take_of_length_le (by omega), List.drop_of_length_le (by omega), List.append_nil])
  | succ d ih =>
    intro i acc hi ha
    refine Ev.succ ?_
    simp (disch := omega) only [laws_toInt64S.l0, if_pos, w64]
    refine Ev.to (ih (i + 1) (acc.set i (rd l i)) (by omega) (by simpa using ha)) ?_
    rw [take_set_succ _ _ _ (by omega), drop_rd l i (by omega), List.append_assoc]; rfl
theorem laws_toInt64S.ev (l : List Int) (hb : l.length ≤ 17592186044416) : Ev (fun k => laws_toInt64S.f k l) l := by
  simp (disch := omega) only [laws_toInt64S.f, if_pos]
  refine Ev.to (laws_toInt64S.ev0 l hb l.length 0 (List.replicate l.length 0) (by omega) (by simp)) (by simp)

/-! ### laws_toBraid -/
theorem laws_toBraid.ev (n : Int) (l : List Int) (hb : l.length ≤ 17592186044416) : Ev (fun k => laws_toBraid.f k n l) (n, l) := by
  simp only [laws_toBraid.f]
  exact Ev.bind (laws_toInt64S.ev l hb) (Ev.now _)

/-! ### impl_within -/
theorem impl_within.eq (a lo hi : Int) : impl_within.f a lo hi = some (inB a lo hi) := by
  unfold impl_within.f inB
  by_cases h : lo ≤ a <;> simp [h]

/-! ### impl_isCount -/
theorem impl_isCount.eq (a : Int) : impl_isCount.f a = some (inB a 1 8) := by simp only [impl_isCount.f, impl_within.eq, Option.bind_some]

/-! ### impl_isLetter -/
theorem impl_isLetter.eq (x n : Int) (h1 : 1 ≤ n) (h8 : n ≤ 8) : impl_isLetter.f x n = some (letterB n x) := by
  simp (disch := omega) only [impl_isLetter.f, impl_within.eq, Option.bind_some, w64]
  unfold letterB
  split <;> simp_all

/-! ### impl_IsBraid -/
theorem impl_IsBraid.ev0 (n : Int) (l : List Int) (h1 : 1 ≤ n) (h8 : n ≤ 8) (hb : l.length ≤ 200) : ∀ (d i : Nat), i + d = l.length →
    Ev (fun k => impl_IsBraid.l0 k l (l.length : Int) (i : Int) n l) ((l.drop i).all (letterB n)) := by
  intro d
  induction d with
  | zero =>
    intro i hi
    refine Ev.succ ?_
    simp (disch := omega) only [impl_IsBraid.l0, if_neg]
    exact Ev.pure (by rw [List.drop_of_length_le (by omega)]; rfl)
  | succ d ih =>
    intro i hi
    refine Ev.succ ?_
    simp (disch := omega) only [impl_IsBraid.l0, if_pos, w64, impl_isLetter.eq, Option.bind_some]
    rw [drop_rd l i (by omega), List.all_cons]
    cases h : letterB n (rd l i) with
    | true => simp only [if_true, Bool.true_and]; exact ih (i + 1) (by omega)
    | false => exact Ev.pure (by simp)
theorem impl_IsBraid.ev (n : Int) (l : List Int) : Ev (fun k => impl_IsBraid.f k n l) (isBraidB n l) := by
  simp only [impl_IsBraid.f, impl_isCount.eq, Option.bind_some]
  unfold isBraidB
  cases hn : inB n 1 8 with
  | false =>
    refine Ev.succ ?_
    simp [impl_IsBraid.j0]
    exact Ev.now _
  | true =>
    obtain ⟨h1, h8⟩ := inB_iff.1 hn
    refine Ev.succ ?_
    simp only [if_true, impl_IsBraid.j0, Bool.true_and]
    by_cases hl : l.length ≤ 200
    · have : ¬ ((l.length : Int) > 200) := by omega
      simp only [this, decide_false, Bool.false_eq_true, if_false, hl, decide_true, Bool.true_and]
      exact Ev.to (impl_IsBraid.ev0 n l h1 h8 hl l.length 0 (by omega)) (by simp)
    · have : ((l.length : Int) > 200) := by omega
      simp only [this, decide_true, if_true, hl, decide_false, Bool.false_and]
      exact Ev.now _

/-! ### impl_sign -/
-- use LibStrand
theorem impl_sign.eq (x : Int) : impl_sign.f x = some (sgnI x) := by
  unfold impl_sign.f sgnI
  split <;> rfl

/-! ### impl_size -/
theorem impl_size.eq (x : Int) (h : -4611686018427387904 ≤ x ∧ x ≤ 4611686018427387904) : impl_size.f x = some (absI x) := by
  have e : wrap64 (-x) = -x := w64 (by omega) (by omega)
  simp only [impl_size.f, e, absI]

/-! ### impl_DoubleStrand -/
-- use LibStrand
theorem impl_DoubleStrand.ev0 (n : Int) (l : List Int) (hn : 1 ≤ n ∧ n ≤ 8) (hb : l.length ≤ 200) (hl : ∀ y ∈ l, y ≠ 0 ∧ -7 ≤ y ∧ y ≤ 7) : ∀ (d i : Nat) (acc : List Int) (p : Int), i + d = l.length → 0 ≤ p → p ≤ 7 → acc.length ≤ 2 * i →
    Ev (fun k => impl_DoubleStrand.l0 k p l (l.length : Int) (i : Int) (n + 1) acc) (if ((acc ++ doubleGo p (l.drop i)).length : Int) > 200 then (0, [], 3) else (n + 1, acc ++ doubleGo p (l.drop i), 0)) := by
  intro d
  induction d with
  | zero =>
    intro i acc p hi h0 h7 ha
    refine Ev.succ ?_
    have c1 : ¬ (i : Int) < (l.length : Int) := by omega
    simp only [impl_DoubleStrand.l0, if_neg c1]
    rw [drop_len _ _ (by omega)]
    simp only [doubleGo, List.append_nil]
    split <;> exact Ev.now _
  | succ d ih =>
    intro i acc p hi h0 h7 ha
    have hy := hl _ (rd_mem l i (by omega))
    have hk1 := absI_pos hy.1
    have hk7 := absI_bd hy.2
    have hsz := Aside0.mk (impl_size.eq (rd l (i : Int)) (by omega))
    have hsg := Aside0.mk (impl_sign.eq (rd l (i : Int)))
    have hw2 := Aside0.mk (w64 (x := (i : Int) + 1) (by omega) (by omega))
    have hwp := Aside0.mk (w64 (x := p + 1) (by omega) (by omega))
    have hwp2 := Aside0.mk (w64 (x := p + 2) (by omega) (by omega))
    have hwm := Aside0.mk (w64 (x := p - 1) (by omega) (by omega))
    have c1 : (i : Int) < (l.length : Int) := by omega
    have c2 : 0 ≤ (i : Int) := by omega
    have c3 : acc.length < 17592186044416 := by omega
    have c4 : acc.length + (0 + 1 + 1) < 17592186044416 := by omega
    have hsb := sgn_cases (rd l (i : Int))
    have hws := Aside0.mk (w64 (x := rd l (i : Int) + sgnI (rd l (i : Int))) (by omega) (by omega))
    have m1 := Aside0.mk (w64 (x := sgnI (rd l (i : Int)) * p) (by rcases hsb with e | e <;> rw [e] <;> omega) (by rcases hsb with e | e <;> rw [e] <;> omega))
    have m2 := Aside0.mk (w64 (x := sgnI (rd l (i : Int)) * (p + 1)) (by rcases hsb with e | e <;> rw [e] <;> omega) (by rcases hsb with e | e <;> rw [e] <;> omega))
    have m3 := Aside0.mk (w64 (x := sgnI (rd l (i : Int)) * (p + 2)) (by rcases hsb with e | e <;> rw [e] <;> omega) (by rcases hsb with e | e <;> rw [e] <;> omega))
    refine Ev.succ ?_
    rw [drop_rd l i (by omega)]
    simp only [impl_DoubleStrand.l0, doubleGo, hwp.out, hwp2.out, hwm.out, hw2.out, hsz.out, hsg.out, hws.out, m1.out, m2.out, m3.out, if_pos c1, if_pos c2, if_pos c3, if_pos c4, Option.bind_some, List.length_cons, List.length_nil]
    by_cases e1 : absI (rd l (i : Int)) = p
    · simp only [if_pos e1]
      exact Ev.to (ih (i + 1) (acc ++ [sgnI (rd l (i : Int)) * p, sgnI (rd l (i : Int)) * (p + 1)]) (p - 1) (by omega) (by omega) (by omega) (by simp; omega)) (by rw [List.append_assoc]; rfl)
    · simp only [if_neg e1]
      by_cases e2 : absI (rd l (i : Int)) = p + 1
      · simp only [if_pos e2]
        exact Ev.to (ih (i + 1) (acc ++ [sgnI (rd l (i : Int)) * (p + 2), sgnI (rd l (i : Int)) * (p + 1)]) (p + 1) (by omega) (by omega) (by omega) (by simp; omega)) (by rw [List.append_assoc]; rfl)
      · simp only [if_neg e2]
        by_cases e3 : absI (rd l (i : Int)) < p
        · have e4 : ¬ absI (rd l (i : Int)) > p + 1 := by omega
          simp only [if_pos e3, if_neg e4]
          exact Ev.to (ih (i + 1) (acc ++ [rd l (i : Int)]) p (by omega) h0 h7 (by simp; omega)) (by rw [List.append_assoc]; rfl)
        · have e4 : absI (rd l (i : Int)) > p + 1 := by omega
          simp only [if_neg e3, if_pos e4]
          exact Ev.to (ih (i + 1) (acc ++ [rd l (i : Int) + sgnI (rd l (i : Int))]) p (by omega) h0 h7 (by simp; omega)) (by rw [List.append_assoc]; rfl)
theorem impl_DoubleStrand.ev (n : Int) (l : List Int) (x : Int) : Ev (fun k => impl_DoubleStrand.f k n l x) (doubleM n l x) := by
  simp only [impl_DoubleStrand.f]
  refine Ev.bind (impl_IsBraid.ev n l) ?_
  unfold doubleM
  by_cases h : isBraidB n l = true
  · obtain ⟨hn, hl, _⟩ := isBraidB_iff.1 h
    have w1 := Aside0.mk (w64 (x := n - 1) (by omega) (by omega))
    have w2 := Aside0.mk (w64 (x := n + 1) (by omega) (by omega))
    simp only [if_pos h, w1.out, w2.out, impl_within.eq, Option.bind_some]
    by_cases h3 : 0 ≤ x ∧ x ≤ n - 1
    · have e : inB x 0 (n - 1) = true := inB_iff.2 h3
      simp only [e, if_true, if_pos h3]
      by_cases h8 : n = 8
      · simp only [if_pos h8]; exact Ev.now _
      · simp only [if_neg h8]
        exact Ev.to (impl_DoubleStrand.ev0 n l hn hl (braid_letters h) l.length 0 [] x (by omega) h3.1 (by omega) (by simp)) (by simp only [List.nil_append, List.drop_zero])
    · have e : inB x 0 (n - 1) = false := inB_not.2 h3
      simp only [e, Bool.false_eq_true, if_false, if_neg h3]
      exact Ev.now _
  · simp only [if_neg h]
    exact Ev.now _

/-! ### laws_eqInt64S -/
theorem laws_eqInt64S.ev0 (l m : List Int) (hb : l.length ≤ 4611686018427387904) (hlm : l.length = m.length) : ∀ (d i : Nat), i + d = l.length →
    Ev (fun k => laws_eqInt64S.l0 k l m (i : Int)) (decide (l.drop i = m.drop i)) := by
  intro d
  induction d with
  | zero =>
    intro i hi
    refine Ev.succ ?_
    simp (disch := omega) only [laws_eqInt64S.l0, if_neg]
    exact Ev.pure (by rw [List.drop_of_length_le (by omega), List.drop_of_length_le (by omega)]; simp)
  | succ d ih =>
    intro i hi
    refine Ev.succ ?_
    simp (disch := omega) only [laws_eqInt64S.l0, if_pos, w64]
    rw [drop_rd l i (by omega), drop_rd m i (by omega)]
    by_cases h : rd l i = rd m i
    · simp only [if_pos h]
      refine Ev.to (ih (i + 1) (by omega)) (by simp [h])
    · simp only [if_neg h]
      exact Ev.pure (by simp [h])
theorem laws_eqInt64S.ev (l m : List Int) (hb : l.length ≤ 4611686018427387904) : Ev (fun k => laws_eqInt64S.f k l m) (decide (l = m)) := by
  by_cases h : l.length = m.length
  · simp (disch := omega) only [laws_eqInt64S.f, if_pos]
    exact Ev.to (laws_eqInt64S.ev0 l m hb h l.length 0 (by omega)) (by simp)
  · simp (disch := omega) only [laws_eqInt64S.f, if_neg]
    exact Ev.pure (by simp; intro e; exact h (by rw [e]))

/-! ### laws_eqBraid -/
theorem laws_eqBraid.ev (n m : Int) (l s : List Int) (hb : l.length ≤ 4611686018427387904) : Ev (fun k => laws_eqBraid.f k n l m s) (decide (n = m) && decide (l = s)) := by
  simp only [laws_eqBraid.f]
  by_cases h : n = m
  · simp only [if_pos h]
    refine Ev.bind (laws_eqInt64S.ev l s hb) ?_
    by_cases h' : l = s <;> simp [h, h'] <;> exact Ev.now _
  · simp only [if_neg h]
    exact Ev.pure (by simp [h])

/-! ### laws_markInt64S -/
theorem laws_markInt64S.ev0 (n : Nat) (hb : n ≤ 4611686018427387904) : ∀ (d i : Nat) (acc : List Int) (x : Int), i + d = n → acc.length = n → -4611686018427387904 ≤ x → x + d ≤ 4611686018427387904 →
    Ev (fun k => laws_markInt64S.l0 k acc x (i : Int)) (x + d, acc.take i ++ iota x d) := by
  intro d
  induction d with
  | zero =>
    intro i acc x hi ha h0 h1
    refine Ev.succ ?_
    simp (disch := omega) only [laws_markInt64S.l0, if_neg]
    exact Ev.pure (by rw [List.take_of_length_le (by omega)]; simp [iota])
  | succ d ih =>
    intro i acc x hi ha h0 h1
    refine Ev.succ ?_
    simp (disch := omega) only [laws_markInt64S.l0, if_pos, w64]
    refine Ev.to (ih (i + 1) (acc.set i x) (x + 1) (by omega) (by simpa using ha) (by omega) (by omega)) ?_
    rw [take_set_succ _ _ _ (by omega), List.append_assoc]
    exact Prod.ext (by simp; omega) rfl
theorem laws_markInt64S.ev (l : List Int) (x : Int) (h0 : 0 ≤ x) (h1 : x + l.length ≤ 4611686018427387904) : Ev (fun k => laws_markInt64S.f k l x) (x + l.length, iota x l.length) := by
  simp only [laws_markInt64S.f]
  exact Ev.to (laws_markInt64S.ev0 l.length (by omega) l.length 0 l x (by omega) rfl (by omega) h1) (by simp)

/-! ### laws_markBraid -/
theorem laws_markBraid.ev (n : Int) (l : List Int) (x : Int) (h0 : 0 ≤ x) (h1 : x + l.length ≤ 4611686018427387904) : Ev (fun k => laws_markBraid.f k n l x) (x + l.length, iota x l.length) := by
  simp only [laws_markBraid.f]
  exact Ev.bind (laws_markInt64S.ev l x h0 h1) (Ev.now _)

/-! ### laws_heldInt64S -/
theorem laws_heldInt64S.ev0 (x0 : Int) (n : Nat) (h0 : -4611686018427387904 ≤ x0) (hb : x0 + n ≤ 4611686018427387904) (hn : n ≤ 4611686018427387904) : ∀ (d i : Nat), i + d = n →
    Ev (fun k => laws_heldInt64S.l0 k (iota x0 n) (x0 + i) (i : Int)) (x0 + n) := by
  intro d
  have hl := iota_length x0 n
  induction d with
  | zero =>
    intro i hi
    refine Ev.succ ?_
    simp (disch := omega) only [laws_heldInt64S.l0, if_neg]
    exact Ev.pure (by omega)
  | succ d ih =>
    intro i hi
    refine Ev.succ ?_
    have e := rd_iota n i x0 (by omega)
    simp (disch := omega) only [laws_heldInt64S.l0, if_pos, w64]
    refine Ev.to (Ev.congr (fun k => ?_) (ih (i + 1) (by omega))) rfl
    congr 1
    omega
theorem laws_heldInt64S.ev (x : Int) (n : Nat) (h0 : -4611686018427387904 ≤ x) (h1 : x + n ≤ 4611686018427387904) (hn : n ≤ 4611686018427387904) : Ev (fun k => laws_heldInt64S.f k (iota x n) x) (x + n) := by
  simp only [laws_heldInt64S.f]
  refine Ev.congr (fun k => ?_) (laws_heldInt64S.ev0 x n h0 h1 hn n 0 (by omega))
  simp

/-! ### laws_heldBraid -/
theorem laws_heldBraid.ev (m : Int) (x : Int) (n : Nat) (h0 : 0 ≤ x) (h1 : x + n ≤ 4611686018427387904) (hn : n ≤ 4611686018427387904) : Ev (fun k => laws_heldBraid.f k m (iota x n) x) (x + n) := by
  simp only [laws_heldBraid.f]
  refine Ev.bind (laws_heldInt64S.ev x n (by omega) h1 hn) ?_
  simp (disch := omega) only [if_neg]
  exact Ev.now _

-- says For every braid-shaped input and every number the program's DoubleStrand returns what the reference's returns, keeps its argument and shares no memory; no conditions.
-- row braid int
theorem law (n : Int) (l : List Int) (s : Int) (hl : l.length ≤ maxLen) (hw : ∀ x ∈ l, (Lit.int .i64 x).wf = true) (_ws : (Lit.int .i64 s).wf = true) : ∃ k, laws_FnExactDoubleStrand.f k n l s = some true := by
  have hf := Fits.of hw
  have hsz := laws_szBraid.eq n l 1048576 (by omega) (by omega) hl
  by_cases hz : (1048576 : Int) - l.length < 0
  · rw [if_pos hz] at hsz
    exact ⟨0, by simp only [laws_FnExactDoubleStrand.f, hsz, Option.bind_some]; rfl⟩
  rw [if_neg hz] at hsz
  obtain ⟨m, r, c, hr, hrl⟩ : ∃ m r c, doubleM n l s = (m, r, c) ∧ r.length ≤ 200 := ⟨_, _, _, rfl, doubleM_length n l s⟩
  have h1 := laws_toBraid.ev n l (by omega)
  have h2 := spec_DoubleStrand.ev n l s hf
  have h3 := impl_DoubleStrand.ev n l s
  rw [hr] at h2 h3
  have h4 := laws_eqBraid.ev n n l l (by omega)
  have h5 := laws_eqBraid.ev m m r r (by omega)
  have h6 := laws_markBraid.ev n l 1 (by omega) (by omega)
  have h7 := laws_markBraid.ev m r 1 (by omega) (by omega)
  have h8 := laws_heldBraid.ev m 1 r.length (by omega) (by omega) (by omega)
  have g1 : ¬ (1 + (l.length : Int) < 0) := by omega
  have g2 : ¬ (1 + (r.length : Int) < 0) := by omega
  refine Ev.rounds ?_
  simp only [laws_FnExactDoubleStrand.f, hsz, Option.bind_some, if_neg hz]
  (try simp only [laws_FnExactDoubleStrand.f, g1, g2])
  repeat (first | (with_reducible refine Ev.bind h1 ?_; (try dsimp only)) | (with_reducible refine Ev.bind h2 ?_; (try dsimp only)) | (with_reducible refine Ev.bind h3 ?_; (try dsimp only)) | (with_reducible refine Ev.bind h4 ?_; (try dsimp only)) | (with_reducible refine Ev.bind h5 ?_; (try dsimp only)) | (with_reducible refine Ev.bind h6 ?_; (try dsimp only)) | (with_reducible refine Ev.bind h7 ?_; (try dsimp only)) | (with_reducible refine Ev.bind h8 ?_; (try dsimp only)) | (simp only [if_true, if_false, eq_self, decide_true, decide_false, Bool.and_self, Bool.true_and, Bool.and_true, bne_self_eq_false, Bool.not_true, Bool.not_false, Bool.false_eq_true, reduceCtorEq, iota_length, g1, g2]))
  refine Ev.succ ?_
  simp only [laws_FnExactDoubleStrand.j0]
  repeat (first | (with_reducible refine Ev.bind h1 ?_; (try dsimp only)) | (with_reducible refine Ev.bind h2 ?_; (try dsimp only)) | (with_reducible refine Ev.bind h3 ?_; (try dsimp only)) | (with_reducible refine Ev.bind h4 ?_; (try dsimp only)) | (with_reducible refine Ev.bind h5 ?_; (try dsimp only)) | (with_reducible refine Ev.bind h6 ?_; (try dsimp only)) | (with_reducible refine Ev.bind h7 ?_; (try dsimp only)) | (with_reducible refine Ev.bind h8 ?_; (try dsimp only)) | (simp only [if_true, if_false, eq_self, decide_true, decide_false, Bool.and_self, Bool.true_and, Bool.and_true, bne_self_eq_false, Bool.not_true, Bool.not_false, Bool.false_eq_true, reduceCtorEq, iota_length, g1, g2]))
  refine Ev.succ ?_
  simp only [laws_FnExactDoubleStrand.j1]
  repeat (first | (with_reducible refine Ev.bind h1 ?_; (try dsimp only)) | (with_reducible refine Ev.bind h2 ?_; (try dsimp only)) | (with_reducible refine Ev.bind h3 ?_; (try dsimp only)) | (with_reducible refine Ev.bind h4 ?_; (try dsimp only)) | (with_reducible refine Ev.bind h5 ?_; (try dsimp only)) | (with_reducible refine Ev.bind h6 ?_; (try dsimp only)) | (with_reducible refine Ev.bind h7 ?_; (try dsimp only)) | (with_reducible refine Ev.bind h8 ?_; (try dsimp only)) | (simp only [if_true, if_false, eq_self, decide_true, decide_false, Bool.and_self, Bool.true_and, Bool.and_true, bne_self_eq_false, Bool.not_true, Bool.not_false, Bool.false_eq_true, reduceCtorEq, iota_length, g1, g2]))
  refine Ev.succ ?_
  simp only [laws_FnExactDoubleStrand.j2]
  repeat (first | (with_reducible refine Ev.bind h1 ?_; (try dsimp only)) | (with_reducible refine Ev.bind h2 ?_; (try dsimp only)) | (with_reducible refine Ev.bind h3 ?_; (try dsimp only)) | (with_reducible refine Ev.bind h4 ?_; (try dsimp only)) | (with_reducible refine Ev.bind h5 ?_; (try dsimp only)) | (with_reducible refine Ev.bind h6 ?_; (try dsimp only)) | (with_reducible refine Ev.bind h7 ?_; (try dsimp only)) | (with_reducible refine Ev.bind h8 ?_; (try dsimp only)) | (simp only [if_true, if_false, eq_self, decide_true, decide_false, Bool.and_self, Bool.true_and, Bool.and_true, bne_self_eq_false, Bool.not_true, Bool.not_false, Bool.false_eq_true, reduceCtorEq, iota_length, g1, g2]))
  exact Ev.now _

end Go.Proofs.Ytcbomfkimohlfaa.PureFnExactDoubleStrand
