/- For every two braid-shaped inputs the program's SameAction returns what the reference's returns and keeps its arguments; no conditions. -/
import Derived.Test.YtppkpeephommhaaMFnExactSameActionx8
import Derived.Test.YtppkpeephommhaaLib
import Derived.Test.YtppkpeephommhaaLibSame
import Derived.Test.YtppkpeephommhaaLibStrand
set_option linter.unusedVariables false
set_option linter.unusedSimpArgs false
set_option maxRecDepth 10000
set_option maxHeartbeats 4000000
namespace Go.Proofs.Ytppkpeephommhaa.PureFnExactSameAction
open Go.RowKit Go.Proofs.Ytppkpeephommhaa.MFnExactSameAction Go.Proofs.YtppkpeephommhaaW.PrintWords Go.Proofs.Ytppkpeephommhaa.Lib

theorem rdL1_eq (xs : List (List Int)) (i : Int) : rd_L1 xs i = rdl xs i := by
  have h : rd_L1 xs i = xs.getD i.toNat [] := by unfold rd_L1; rfl
  rw [h, rdl]

/-! ### laws_szInt64S -/
theorem laws_szInt64S.eq (l : List Int) (x : Int) (h0 : 0 ≤ x) (h1 : x ≤ 1048576) (hl : l.length ≤ maxLen) : laws_szInt64S.f l x = some (if x - l.length < 0 then -1 else x - l.length) := by
  unfold maxLen at hl
  simp (disch := omega) only [laws_szInt64S.f, w64]
  split <;> rfl

/-! ### laws_szBraid -/
theorem laws_szBraid.eq (n : Int) (l : List Int) (x : Int) (h0 : 0 ≤ x) (h1 : x ≤ 1048576) (hl : l.length ≤ maxLen) : laws_szBraid.f n l x = some (if x - l.length < 0 then -1 else x - l.length) := by
  simp (disch := assumption) only [laws_szBraid.f, laws_szInt64S.eq, Option.bind_some]
  by_cases h : x - l.length < 0
  · simp [h]
  · simp [h]

/-! ### laws_toInt64S -/
theorem laws_toInt64S.ev0 (l : List Int) (hb : l.length ≤ 17592186044416) : ∀ (d i : Nat) (acc : List Int), i + d = l.length → acc.length = l.length →
    Ev (fun k => laws_toInt64S.l0 k l acc (i : Int)) (acc.take i ++ l.drop i) := by
  intro d
  induction d with
  | zero =>
    intro i acc hi ha
    refine Ev.succ ?_
    simp (disch := omega) only [laws_toInt64S.l0, if_neg]
    exact Ev.pure (by rw [List.take_of_length_le (by omega), List.drop_of_length_le (by omega), List.append_nil])
  | succ d ih =>
    intro i acc hi ha
    refine Ev.succ ?_
    simp (disch := omega) only [laws_toInt64S.l0, if_pos, w64]
    refine Ev.to (ih (i + 1) (acc.set i (rd l i)) (by omega) (by simpa using ha)) ?_
    rw [take_set_succ _ _ _ (by omega), drop_rd l i (by omega), List.append_assoc]; rfl
theorem laws_toInt64S.ev (l : List Int) (hb : l.length ≤ 17592186044416) : Ev (fun k => laws_toInt64S.f k l) l := by
  simp (disch := omega) only [laws_toInt64S.f, if_pos]
  refine Ev.to (laws_toInt64S.ev0 l hb l.length 0 (List.replicate l.length 0) (by omega) (by simp)) (by simp)

/-! ### laws_toBraid -/
theorem laws_toBraid.ev (n : Int) (l : List Int) (hb : l.length ≤ 17592186044416) : Ev (fun k => laws_toBraid.f k n l) (n, l) := by
  simp only [laws_toBraid.f]
  exact Ev.bind (laws_toInt64S.ev l hb) (Ev.now _)

/-! ### laws_eqInt64S -/
theorem laws_eqInt64S.ev0 (l m : List Int) (hb : l.length ≤ 4611686018427387904) (hlm : l.length = m.length) : ∀ (d i : Nat), i + d = l.length →
    Ev (fun k => laws_eqInt64S.l0 k l m (i : Int)) (decide (l.drop i = m.drop i)) := by
  intro d
  induction d with
  | zero =>
    intro i hi
    refine Ev.succ ?_
    simp (disch := omega) only [laws_eqInt64S.l0, if_neg]
    exact Ev.pure (by rw [List.drop_of_length_le (by omega), List.drop_of_length_le (by omega)]; simp)
  | succ d ih =>
    intro i hi
    refine Ev.succ ?_
    simp (disch := omega) only [laws_eqInt64S.l0, if_pos, w64]
    rw [drop_rd l i (by omega), drop_rd m i (by omega)]
    by_cases h : rd l i = rd m i
    · simp only [if_pos h]
      refine Ev.to (ih (i + 1) (by omega)) (by simp [h])
    · simp only [if_neg h]
      exact Ev.pure (by simp [h])
theorem laws_eqInt64S.ev (l m : List Int) (hb : l.length ≤ 4611686018427387904) : Ev (fun k => laws_eqInt64S.f k l m) (decide (l = m)) := by
  by_cases h : l.length = m.length
  · simp (disch := omega) only [laws_eqInt64S.f, if_pos]
    exact Ev.to (laws_eqInt64S.ev0 l m hb h l.length 0 (by omega)) (by simp)
  · simp (disch := omega) only [laws_eqInt64S.f, if_neg]
    exact Ev.pure (by simp; intro e; exact h (by rw [e]))

/-! ### laws_eqBraid -/
theorem laws_eqBraid.ev (n m : Int) (l s : List Int) (hb : l.length ≤ 4611686018427387904) : Ev (fun k => laws_eqBraid.f k n l m s) (decide (n = m) && decide (l = s)) := by
  simp only [laws_eqBraid.f]
  by_cases h : n = m
  · simp only [if_pos h]
    refine Ev.bind (laws_eqInt64S.ev l s hb) ?_
    by_cases h' : l = s <;> simp [h, h'] <;> exact Ev.now _
  · simp only [if_neg h]
    exact Ev.pure (by simp [h])

/-! ### spec_l01In -/
theorem spec_l01In.eq (a lo hi : Int) : spec_l01In.f a lo hi = some (inB a lo hi) := by
  unfold spec_l01In.f inB
  by_cases h : lo ≤ a <;> simp [h]

/-! ### spec_l01Is -/
theorem spec_l01Is.letter (n x : Int) (h1 : 1 ≤ n) (h8 : n ≤ 8) (hx : -9223372036854775808 ≤ x ∧ x ≤ 9223372036854775807) : (inB x 1 (n - 1) || inB (wrap64 (-x)) 1 (n - 1)) = letterB n x := by
  unfold inB letterB inB wrap64
  rw [Bool.eq_iff_iff]; simp; omega
theorem spec_l01Is.ev0 (n : Int) (l : List Int) (h1 : 1 ≤ n) (h8 : n ≤ 8) (hb : l.length ≤ 200) (hf : Fits l) : ∀ (d i : Nat), i + d = l.length →
    Ev (fun k => spec_l01Is.l0 k (i : Int) n l) ((l.drop i).all (letterB n)) := by
  intro d
  induction d with
  | zero =>
    intro i hi
    refine Ev.succ ?_
    simp (disch := omega) only [spec_l01Is.l0, if_neg]
    exact Ev.pure (by rw [List.drop_of_length_le (by omega)]; rfl)
  | succ d ih =>
    intro i hi
    refine Ev.succ ?_
    have hx := hf (rd l i) (rd_mem l i (by omega))
    have hl := spec_l01Is.letter n (rd l i) h1 h8 hx
    have hw : wrap64 (n - 1) = n - 1 := w64 (by omega) (by omega)
    have hw2 : wrap64 ((i : Int) + 1) = ((i + 1 : Nat) : Int) := w64 (by omega) (by omega)
    simp (disch := omega) only [spec_l01Is.l0, if_pos, hw, hw2, spec_l01In.eq, Option.bind_some]
    rw [drop_rd l i (by omega), List.all_cons, ← hl]
    cases h : inB (rd l i) 1 (n - 1) with
    | true => simp only [if_true, Bool.true_or, Bool.true_and]; exact ih (i + 1) (by omega)
    | false =>
      cases h' : inB (wrap64 (-(rd l i))) 1 (n - 1) with
      | true => simp only [if_true, Bool.false_or, Bool.true_and, Bool.false_eq_true, if_false]; exact ih (i + 1) (by omega)
      | false => exact Ev.pure (by simp)
theorem spec_l01Is.ev (n : Int) (l : List Int) (hf : Fits l) : Ev (fun k => spec_l01Is.f k n l) (isBraidB n l) := by
  simp only [spec_l01Is.f, spec_l01In.eq, Option.bind_some]
  unfold isBraidB
  cases hn : inB n 1 8 with
  | false =>
    refine Ev.succ ?_
    simp [spec_l01Is.j0]
    exact Ev.now _
  | true =>
    obtain ⟨h1, h8⟩ := inB_iff.1 hn
    refine Ev.succ ?_
    simp only [if_true, spec_l01Is.j0, Bool.true_and]
    by_cases hl : l.length ≤ 200
    · have : ¬ ((l.length : Int) > 200) := by omega
      simp only [this, decide_false, Bool.false_eq_true, if_false, hl, decide_true, Bool.true_and]
      exact Ev.to (spec_l01Is.ev0 n l h1 h8 hl hf l.length 0 (by omega)) (by simp)
    · have : ((l.length : Int) > 200) := by omega
      simp only [this, decide_true, if_true, hl, decide_false, Bool.false_and]
      exact Ev.now _

/-! ### spec_l01Own -/
theorem spec_l01Own.eq (l : List Int) (h : l.length ≤ 1099511627776) : spec_l01Own.f l = some l := by
  simp only [spec_l01Own.f, Option.bind_some, List.nil_append, List.length_nil]
  rw [if_pos (by omega)]

/-! ### spec_l08Image -/
-- use LibStrand
theorem spec_l08Image.ev (y x : Int) (hy : y ≠ 0 ∧ -7 ≤ y ∧ y ≤ 7) : Ev (fun k => spec_l08Image.f k y x) (imgW y x) := by
  have hk1 := absI_pos hy.1
  have hk7 := absI_bd hy.2
  have W := Aside0.mk (w64 (x := -y) (by omega) (by omega))
  have ha : mx y (-y) = absI y := rfl
  have wp := Aside0.mk (w64 (x := absI y + 1) (by omega) (by omega))
  have wn := Aside0.mk (w64 (x := -absI y) (by omega) (by omega))
  have wn1 := Aside0.mk (w64 (x := -(absI y + 1)) (by omega) (by omega))
  unfold imgW
  simp only [spec_l08Image.f, W.out, ha]
  by_cases h : y > 0
  · have h' : ¬ y < 0 := by omega
    simp only [if_pos h]
    refine Ev.succ ?_
    simp only [spec_l08Image.j0, wp.out, wn.out, if_pos h]
    by_cases e1 : x = absI y
    · simp only [e1, beq_self_eq_true, if_true, h, true_and]
      exact Ev.now _
    · have b1 : (x == absI y) = false := by simp [e1]
      simp only [b1, Bool.false_eq_true, if_false]
      refine Ev.succ ?_
      simp only [spec_l08Image.j1, if_neg h']
      by_cases e2 : x = absI y + 1
      · have b2 : (x == absI y + 1) = true := by simp [e2]
        simp only [b2, if_true]
        exact Ev.pure (by simp [e2, h] <;> omega)
      · have b2 : (x == absI y + 1) = false := by simp [e2]
        simp only [b2, Bool.false_eq_true, if_false]
        refine Ev.succ ?_
        simp only [spec_l08Image.j2, Bool.false_eq_true, if_false, if_neg h']
        exact Ev.pure (by simp [e1, e2])
  · have h' : y < 0 := by omega
    simp only [if_neg h]
    refine Ev.succ ?_
    simp only [spec_l08Image.j0, Bool.false_eq_true, if_false, if_neg h]
    refine Ev.succ ?_
    simp only [spec_l08Image.j1, Bool.false_eq_true, if_false, if_pos h']
    refine Ev.succ ?_
    simp only [spec_l08Image.j2, wp.out, wn1.out, if_pos h']
    by_cases e1 : x = absI y
    · have b1 : (x == absI y) = true := by simp [e1]
      simp only [b1, if_true]
      exact Ev.pure (by simp [e1, h, h'])
    · have b1 : (x == absI y) = false := by simp [e1]
      simp only [b1, Bool.false_eq_true, if_false]
      by_cases e2 : x = absI y + 1
      · simp only [if_pos e2]
        exact Ev.pure (by simp [e2, h, h'] <;> omega)
      · simp only [if_neg e2]
        exact Ev.pure (by simp [e1, e2])

/-! ### spec_l08Back -/
theorem spec_l08Back.ev0 (l : List Int) (hs : Small l) (hb : l.length ≤ 1099511627776) : ∀ (d : Nat) (acc : List Int), d ≤ l.length → acc.length + d ≤ 1099511627776 →
    Ev (fun k => spec_l08Back.l0 k l acc ((d : Int) - 1)) (acc ++ back (l.take d)) := by
  intro d
  induction d with
  | zero =>
    intro acc hd ha
    refine Ev.succ ?_
    simp (disch := omega) only [spec_l08Back.l0, if_neg]
    exact Ev.pure (by simp [back])
  | succ d ih =>
    intro acc hd ha
    refine Ev.succ ?_
    have hx := hs.rd d (by omega)
    have e : ((d + 1 : Nat) : Int) - 1 = (d : Int) := by omega
    rw [e]
    simp (disch := omega) only [spec_l08Back.l0, if_pos, w64]
    refine Ev.to (ih (acc ++ [-rd l (d : Int)]) (by omega) (by simp; omega)) ?_
    rw [take_rd l d (by omega), back_snoc]
    simp
theorem spec_l08Back.ev (l : List Int) (hs : Small l) (hb : l.length ≤ 1099511627776) : Ev (fun k => spec_l08Back.f k l) (back l) := by
  have e : wrap64 ((l.length : Int) - 1) = (l.length : Int) - 1 := w64 (by omega) (by omega)
  simp only [spec_l08Back.f, e]
  exact Ev.to (spec_l08Back.ev0 l hs hb l.length [] (by omega) (by simpa using hb)) (by simp)

/-! ### spec_l08Act -/
-- use LibStrand
theorem spec_l08Act.ev2 (l w : List Int) (p : Int) (own : List Int) (ho : Small own) (hol : own.length ≤ 3) (R : List Int × Bool) (q : Nat) (hq : q ≤ 5000) : ∀ (d i : Nat) (acc : List Int), i + d = own.length → acc.length + d ≤ 100000 →
    (Ev (fun k => spec_l08Act.l1 k l w p (pushAll acc (own.drop i)) ((q + 1 : Nat) : Int)) R) → Ev (fun k => spec_l08Act.l2 k l w p acc (q : Int) own (i : Int)) R := by
  intro d
  induction d with
  | zero =>
    intro i acc hi ha hR
    refine Ev.succ ?_
    have c1 : ¬ (i : Int) < (own.length : Int) := by omega
    have w1 := Aside0.mk (w64 (x := (q : Int) + 1) (by omega) (by omega))
    simp only [spec_l08Act.l2, if_neg c1, w1.out]
    rw [drop_len _ _ (by omega)] at hR
    exact hR
  | succ d ih =>
    intro i acc hi ha hR
    refine Ev.succ ?_
    have hx := ho.rd i (by omega)
    have hw2 := Aside0.mk (w64 (x := (i : Int) + 1) (by omega) (by omega))
    have hwn := Aside0.mk (w64 (x := -(rd own (i : Int))) (by omega) (by omega))
    have ih' := fun acc h hR => ih (i + 1) acc (by omega) h hR
    have c1 : (i : Int) < (own.length : Int) := by omega
    have c2 : 0 ≤ (i : Int) := by omega
    have c3 : acc.length < 17592186044416 := by omega
    rw [drop_rd own i (by omega)] at hR
    simp only [pushAll, List.foldl_cons, push1] at ih' hR
    by_cases h0 : acc.length = 0
    · have e : acc = [] := List.eq_nil_of_length_eq_zero h0
      subst e
      have c4 : ¬ ((([] : List Int).length : Int) > 0) := by simp
      have c5 : ([] : List Int).length < 17592186044416 := by simp
      simp only [spec_l08Act.l2, if_pos c1, if_pos c2, if_neg c4, if_pos c5, hw2.out]
      exact ih' [rd own i] (by simp; omega) hR
    · have hwa := Aside0.mk (w64 (x := (acc.length : Int) - 1) (by omega) (by omega))
      have c4 : ((acc.length : Int) > 0) := by omega
      have c5 : 0 ≤ ((acc.length : Int) - 1) := by omega
      have c6 : ((acc.length : Int) - 1) < (acc.length : Int) := by omega
      have c7 : ((acc.length : Int) - 1) ≤ (acc.length : Int) := by omega
      simp only [spec_l08Act.l2, if_pos c1, if_pos c2, if_pos c3, if_pos c4, if_pos c5, if_pos c6, if_pos c7, hw2.out, hwa.out, hwn.out]
      rw [last_rd acc (by omega)] at hR
      by_cases hqq : rd acc ((acc.length : Int) - 1) = -rd own (i : Int)
      · simp only [if_pos hqq, Option.some.injEq] at hR ⊢
        rw [show (((acc.length : Int) - 1).toNat) = acc.length - 1 from by omega, take_last]
        exact ih' acc.dropLast (by simp; omega) hR
      · simp only [if_neg hqq, Option.some.injEq] at hR ⊢
        exact ih' (acc ++ [rd own i]) (by simp; omega) hR
theorem spec_l08Act.ev1 (l w : List Int) (p : Nat) (hp : p < l.length) (hl : ∀ y ∈ l, y ≠ 0 ∧ -7 ≤ y ∧ y ≤ 7) (hw : Gens w) (hwl : w.length ≤ 4000) (R : List Int × Bool) : ∀ (d i : Nat) (acc : List Int), i + d = w.length → Gens acc → acc.length ≤ 3 * i →
    (Ev (fun k => spec_l08Act.l1 k l w (p : Int) ((w.drop i).foldl (fun acc x => pushAll acc (imgS (rd l (p : Int)) x)) acc) (w.length : Int)) R) → Ev (fun k => spec_l08Act.l1 k l w (p : Int) acc (i : Int)) R := by
  intro d
  induction d with
  | zero =>
    intro i acc hi hg ha hR
    rw [drop_len _ _ (by omega)] at hR
    have : i = w.length := by omega
    subst this
    exact hR
  | succ d ih =>
    intro i acc hi hg ha hR
    have hy := hl _ (rd_mem l p hp)
    have hx := hw _ (rd_mem w i (by omega))
    have hk1 := absI_pos hx.1
    have hk8 := absI_bd hx.2
    have W := Aside0.mk (w64 (x := -rd w (i : Int)) (by omega) (by omega))
    have hmx : mx (rd w (i : Int)) (-rd w (i : Int)) = absI (rd w (i : Int)) := rfl
    have hgi := imgS_gens hy hx
    have hli := imgS_length (rd l (p : Int)) (rd w (i : Int))
    have hpl := pushAll_length acc (imgS (rd l (p : Int)) (rd w (i : Int)))
    have c1 : (i : Int) < (w.length : Int) := by omega
    have c2 : 0 ≤ (i : Int) := by omega
    have c3 : 0 ≤ (p : Int) := by omega
    have c4 : (p : Int) < (l.length : Int) := by omega
    rw [drop_rd w i (by omega), List.foldl_cons] at hR
    have next := ih (i + 1) (pushAll acc (imgS (rd l (p : Int)) (rd w (i : Int)))) (by omega) (fun y hy' => by
      rcases pushAll_mem hy' with h | h
      · exact hg y h
      · exact hgi y h) (by omega) hR
    have last : Ev (fun k => spec_l08Act.j2 k l w (p : Int) acc (i : Int) (imgS (rd l (p : Int)) (rd w (i : Int)))) R := by
      refine Ev.succ ?_
      simp only [spec_l08Act.j2]
      exact spec_l08Act.ev2 l w p _ hgi.small hli R i (by omega) (imgS (rd l (p : Int)) (rd w (i : Int))).length 0 acc (by omega) (by omega) (by rw [List.drop_zero]; exact next)
    refine Ev.succ ?_
    simp only [spec_l08Act.l1, if_pos c1, if_pos c2, if_pos c3, if_pos c4, W.out, hmx]
    refine Ev.bind (spec_l08Image.ev _ _ hy) ?_
    have hiw := imgW_gens hy (x := absI (rd w (i : Int))) ⟨by omega, by omega, by omega⟩
    have hil := imgW_length (rd l (p : Int)) (absI (rd w (i : Int)))
    by_cases h : rd w (i : Int) < 0
    · simp only [if_pos h]
      refine Ev.bind (spec_l08Back.ev _ hiw.small (by omega)) ?_
      rw [imgS, if_pos h] at last
      exact last
    · simp only [if_neg h]
      rw [imgS, if_neg h] at last
      exact last
theorem spec_l08Act.ev0 (l : List Int) (hb : l.length ≤ 200) (hl : ∀ y ∈ l, y ≠ 0 ∧ -7 ≤ y ∧ y ≤ 7) : ∀ (d p : Nat) (w : List Int), p + d = l.length → Gens w → w.length ≤ 4000 →
    Ev (fun k => spec_l08Act.l0 k l w (p : Int)) (match actAll (l.drop p) w with | some r => (r, true) | none => ([], false)) := by
  intro d
  induction d with
  | zero =>
    intro p w hp hw hwl
    refine Ev.succ ?_
    have c1 : ¬ (p : Int) < (l.length : Int) := by omega
    simp only [spec_l08Act.l0, if_neg c1]
    rw [drop_len _ _ (by omega)]
    exact Ev.now _
  | succ d ih =>
    intro p w hp hw hwl
    refine Ev.succ ?_
    have hy := hl _ (rd_mem l p (by omega))
    have c1 : (p : Int) < (l.length : Int) := by omega
    have w1 := Aside0.mk (w64 (x := (p : Int) + 1) (by omega) (by omega))
    simp only [spec_l08Act.l0, if_pos c1]
    refine spec_l08Act.ev1 l w p (by omega) hl hw hwl _ w.length 0 [] (by omega) (by simp [Gens]) (by simp) ?_
    rw [List.drop_zero]
    rw [show w.foldl (fun acc x => pushAll acc (imgS (rd l (p : Int)) x)) [] = act1 (rd l (p : Int)) w from rfl]
    have hg := act1_gens hy hw
    refine Ev.succ ?_
    have c2 : ¬ (w.length : Int) < (w.length : Int) := by omega
    rw [drop_rd l p (by omega)]
    simp only [spec_l08Act.l1, if_neg c2, w1.out, actAll]
    by_cases h : ((act1 (rd l (p : Int)) w).length : Int) > 4000
    · simp only [if_pos h]
      exact Ev.now _
    · simp only [if_neg h]
      exact ih (p + 1) _ (by omega) hg (by omega)
theorem spec_l08Act.ev (l w : List Int) (hb : l.length ≤ 200) (hl : ∀ y ∈ l, y ≠ 0 ∧ -7 ≤ y ∧ y ≤ 7) (hw : Gens w) (hwl : w.length ≤ 4000) :
    Ev (fun k => spec_l08Act.f k l w) (match actAll l w with | some r => (r, true) | none => ([], false)) := by
  have e := spec_l01Own.eq w (by omega)
  simp only [spec_l08Act.f, e, Option.bind_some]
  exact Ev.to (spec_l08Act.ev0 l hb hl l.length 0 w (by omega) hw hwl) (by rw [List.drop_zero])

/-! ### spec_l08Images -/
-- use LibStrand
theorem spec_l08Images.ev0 (l : List Int) (hb : l.length ≤ 200) (hl : ∀ y ∈ l, y ≠ 0 ∧ -7 ≤ y ∧ y ≤ 7) (n : Int) (hn : n ≤ 8) : ∀ (d : Nat) (i : Int) (acc : List (List Int)), i + d = n + 1 → 1 ≤ i → acc.length ≤ i →
    Ev (fun k => spec_l08Images.l0 k acc i n l) (match imagesGo l d i acc with | some r => (r, true) | none => ([], false)) := by
  intro d
  induction d with
  | zero =>
    intro i acc hi h1 ha
    refine Ev.succ ?_
    have c1 : ¬ i ≤ n := by omega
    simp only [spec_l08Images.l0, if_neg c1, imagesGo]
    exact Ev.now _
  | succ d ih =>
    intro i acc hi h1 ha
    refine Ev.succ ?_
    have c1 : i ≤ n := by omega
    have w1 := Aside0.mk (w64 (x := i + 1) (by omega) (by omega))
    have hg : Gens [i] := fun x hx => by rw [List.mem_singleton.1 hx]; omega
    simp only [spec_l08Images.l0, if_pos c1, imagesGo]
    refine Ev.bind (spec_l08Act.ev l [i] hb hl hg (by simp)) ?_
    cases e : actAll l [i] with
    | none => exact Ev.now _
    | some w =>
      have c2 : acc.length < 5864062014805 := by omega
      simp only [if_true, if_pos c2, w1.out]
      exact ih (i + 1) _ (by omega) (by omega) (by simp; omega)
theorem spec_l08Images.ev (n : Int) (l : List Int) (h : isBraidB n l = true) : Ev (fun k => spec_l08Images.f k n l) (match imagesGo l n.toNat 1 [] with | some r => (r, true) | none => ([], false)) := by
  have hn := (isBraidB_iff.1 h).1
  simp only [spec_l08Images.f]
  exact spec_l08Images.ev0 l (isBraidB_iff.1 h).2.1 (braid_letters h) n (by omega) n.toNat 1 [] (by omega) (by omega) (by simp)

/-! ### spec_l08Same -/
theorem spec_l08Same.ev0 (l m : List Int) (hb : l.length ≤ 1099511627776) (hlm : l.length = m.length) : ∀ (d i : Nat), i + d = l.length →
    Ev (fun k => spec_l08Same.l0 k l m (i : Int)) (decide (l.drop i = m.drop i)) := by
  intro d
  induction d with
  | zero =>
    intro i hi
    refine Ev.succ ?_
    have c1 : ¬ (i : Int) < (l.length : Int) := by omega
    simp only [spec_l08Same.l0, if_neg c1]
    exact Ev.pure (by rw [List.drop_of_length_le (by omega), List.drop_of_length_le (by omega)]; rfl)
  | succ d ih =>
    intro i hi
    refine Ev.succ ?_
    have c1 : (i : Int) < (l.length : Int) := by omega
    have c2 : 0 ≤ (i : Int) := by omega
    have c3 : (i : Int) < (m.length : Int) := by omega
    have w1 := Aside0.mk (w64 (x := (i : Int) + 1) (by omega) (by omega))
    rw [drop_rd l i (by omega), drop_rd m i (by omega)]
    by_cases h : rd l (i : Int) = rd m (i : Int)
    · simp only [spec_l08Same.l0, if_pos c1, if_pos c2, if_pos c3, if_pos h, w1.out]
      exact Ev.to (ih (i + 1) (by omega)) (by simp [h])
    · simp only [spec_l08Same.l0, if_pos c1, if_pos c2, if_pos c3, if_neg h]
      exact Ev.pure (by simp [h])
theorem spec_l08Same.ev (l m : List Int) (hb : l.length ≤ 1099511627776) : Ev (fun k => spec_l08Same.f k l m) (decide (l = m)) := by
  by_cases h : l.length = m.length
  · have h' : (l.length : Int) = (m.length : Int) := by omega
    simp only [spec_l08Same.f, if_pos h']
    exact Ev.to (spec_l08Same.ev0 l m hb h l.length 0 (by omega)) (by simp)
  · have h' : ¬ (l.length : Int) = (m.length : Int) := by omega
    simp only [spec_l08Same.f, if_neg h']
    exact Ev.pure (by symm; exact decide_eq_false (fun e => h (by rw [e])))

/-! ### spec_SameAction -/
-- use LibSame
theorem spec_SameAction.ev0 (x y : List (List Int)) (hb : x.length ≤ 8) (hxy : x.length = y.length) (hx : ∀ q ∈ x, q.length ≤ 4000) : ∀ (d i : Nat), i + d = x.length →
    Ev (fun k => spec_SameAction.l0 k x y (i : Int)) (decide (x.drop i = y.drop i), 0) := by
  intro d
  induction d with
  | zero =>
    intro i hi
    refine Ev.succ ?_
    have c1 : ¬ (i : Int) < (x.length : Int) := by omega
    simp only [spec_SameAction.l0, if_neg c1]
    exact Ev.pure (by rw [List.drop_of_length_le (by omega), List.drop_of_length_le (by omega)]; rfl)
  | succ d ih =>
    intro i hi
    refine Ev.succ ?_
    have c1 : (i : Int) < (x.length : Int) := by omega
    have c2 : 0 ≤ (i : Int) := by omega
    have c3 : (i : Int) < (y.length : Int) := by omega
    have w1 := Aside0.mk (w64 (x := (i : Int) + 1) (by omega) (by omega))
    have hxi := hx _ (rdl_mem x i (by omega))
    rw [drop_rdl x i (by omega), drop_rdl y i (by omega)]
    simp only [spec_SameAction.l0, rdL1_eq, if_pos c1, if_pos c2, if_pos c3, w1.out]
    refine Ev.bind (spec_l08Same.ev (rdl x (i : Int)) (rdl y (i : Int)) (by omega)) ?_
    by_cases h : rdl x (i : Int) = rdl y (i : Int)
    · simp only [decide_eq_true h, if_true]
      exact Ev.to (ih (i + 1) (by omega)) (by simp [h])
    · simp only [decide_eq_false h, Bool.false_eq_true, if_false]
      exact Ev.pure (by simp [h])
theorem spec_SameAction.ev (n : Int) (l : List Int) (m : Int) (s : List Int) (hf : Fits l) (hg : Fits s) : Ev (fun k => spec_SameAction.f k n l m s) (sameM n l m s) := by
  simp only [spec_SameAction.f]
  refine Ev.bind (spec_l01Is.ev n l hf) ?_
  unfold sameM
  by_cases h : isBraidB n l = true
  · simp only [if_pos h]
    refine Ev.bind (spec_l01Is.ev m s hg) ?_
    refine Ev.succ ?_
    by_cases hs : isBraidB m s = true
    · simp only [if_pos hs, hs, Bool.not_true, spec_SameAction.j0, Bool.false_eq_true, if_false]
      by_cases e : n = m
      · simp only [if_pos e]
        refine Ev.bind (spec_l08Images.ev n l h) ?_
        refine Ev.bind (spec_l08Images.ev m s hs) ?_
        cases e1 : imagesGo l n.toNat 1 [] with
        | none =>
          simp only [Bool.false_eq_true, if_false]
          refine Ev.succ ?_
          simp only [spec_SameAction.j1, if_true]
          exact Ev.now _
        | some x =>
          simp only [if_true]
          refine Ev.succ ?_
          cases e2 : imagesGo s m.toNat 1 [] with
          | none =>
            simp only [Bool.not_false, spec_SameAction.j1, if_true]
            exact Ev.now _
          | some y =>
            have b := imagesGo_ok (isBraidB_iff.1 h).1 e1
            have b2 := imagesGo_ok (isBraidB_iff.1 hs).1 e2
            have hn := (isBraidB_iff.1 h).1
            simp only [Bool.not_true, spec_SameAction.j1, Bool.false_eq_true, if_false]
            exact Ev.to (spec_SameAction.ev0 x y (by omega) (by omega) b.2 x.length 0 (by omega)) (by simp [sameR])
      · simp only [if_neg e]
        exact Ev.now _
    · simp only [if_neg hs, Bool.eq_false_iff.2 hs, Bool.not_false, spec_SameAction.j0, if_true]
      exact Ev.now _
  · simp only [if_neg h]
    refine Ev.succ ?_
    simp only [spec_SameAction.j0, if_true]
    exact Ev.now _

/-! ### impl_within -/
theorem impl_within.eq (a lo hi : Int) : impl_within.f a lo hi = some (inB a lo hi) := by
  unfold impl_within.f inB
  by_cases h : lo ≤ a <;> simp [h]

/-! ### impl_isCount -/
theorem impl_isCount.eq (a : Int) : impl_isCount.f a = some (inB a 1 8) := by simp only [impl_isCount.f, impl_within.eq, Option.bind_some]

/-! ### impl_isLetter -/
theorem impl_isLetter.eq (x n : Int) (h1 : 1 ≤ n) (h8 : n ≤ 8) : impl_isLetter.f x n = some (letterB n x) := by
  simp (disch := omega) only [impl_isLetter.f, impl_within.eq, Option.bind_some, w64]
  unfold letterB
  split <;> simp_all

/-! ### impl_IsBraid -/
theorem impl_IsBraid.ev0 (n : Int) (l : List Int) (h1 : 1 ≤ n) (h8 : n ≤ 8) (hb : l.length ≤ 200) : ∀ (d i : Nat), i + d = l.length →
    Ev (fun k => impl_IsBraid.l0 k l (l.length : Int) (i : Int) n l) ((l.drop i).all (letterB n)) := by
  intro d
  induction d with
  | zero =>
    intro i hi
    refine Ev.succ ?_
    simp (disch := omega) only [impl_IsBraid.l0, if_neg]
    exact Ev.pure (by rw [List.drop_of_length_le (by omega)]; rfl)
  | succ d ih =>
    intro i hi
    refine Ev.succ ?_
    simp (disch := omega) only [impl_IsBraid.l0, if_pos, w64, impl_isLetter.eq, Option.bind_some]
    rw [drop_rd l i (by omega), List.all_cons]
    cases h : letterB n (rd l i) with
    | true => simp only [if_true, Bool.true_and]; exact ih (i + 1) (by omega)
    | false => exact Ev.pure (by simp)
theorem impl_IsBraid.ev (n : Int) (l : List Int) : Ev (fun k => impl_IsBraid.f k n l) (isBraidB n l) := by
  simp only [impl_IsBraid.f, impl_isCount.eq, Option.bind_some]
  unfold isBraidB
  cases hn : inB n 1 8 with
  | false =>
    refine Ev.succ ?_
    simp [impl_IsBraid.j0]
    exact Ev.now _
  | true =>
    obtain ⟨h1, h8⟩ := inB_iff.1 hn
    refine Ev.succ ?_
    simp only [if_true, impl_IsBraid.j0, Bool.true_and]
    by_cases hl : l.length ≤ 200
    · have : ¬ ((l.length : Int) > 200) := by omega
      simp only [this, decide_false, Bool.false_eq_true, if_false, hl, decide_true, Bool.true_and]
      exact Ev.to (impl_IsBraid.ev0 n l h1 h8 hl l.length 0 (by omega)) (by simp)
    · have : ((l.length : Int) > 200) := by omega
      simp only [this, decide_true, if_true, hl, decide_false, Bool.false_and]
      exact Ev.now _

/-! ### impl_freed -/
theorem impl_freed.ev0 (l : List Int) (hs : Small l) (hb : l.length ≤ 1099511627776) : ∀ (d i : Nat) (acc : List Int), i + d = l.length → acc.length + d ≤ 4398046511104 →
    Ev (fun k => impl_freed.l0 k acc l (l.length : Int) (i : Int)) (pushAll acc (l.drop i)) := by
  intro d
  induction d with
  | zero =>
    intro i acc hi ha
    refine Ev.succ ?_
    simp (disch := omega) only [impl_freed.l0, if_neg]
    exact Ev.pure (by rw [List.drop_of_length_le (by omega)]; rfl)
  | succ d ih =>
    intro i acc hi ha
    refine Ev.succ ?_
    have hx := hs.rd i (by omega)
    have hw2 : wrap64 ((i : Int) + 1) = ((i + 1 : Nat) : Int) := w64 (by omega) (by omega)
    have hwn : wrap64 (-(rd l (i : Int))) = -(rd l (i : Int)) := w64 (by omega) (by omega)
    have ih' := fun acc h => ih (i + 1) acc (by omega) h
    rw [drop_rd l i (by omega)]
    simp only [pushAll, List.foldl_cons, push1] at ih' ⊢
    by_cases h0 : acc.length = 0
    · have e : acc = [] := List.eq_nil_of_length_eq_zero h0
      subst e
      simp (disch := omega) only [impl_freed.l0, if_pos, if_neg, hw2, List.length_nil]
      exact ih' [rd l i] (by simp; omega)
    · have hwa : wrap64 ((acc.length : Int) - 1) = (acc.length : Int) - 1 := w64 (by omega) (by omega)
      simp (disch := omega) only [impl_freed.l0, if_pos, if_neg, hw2, hwa, hwn]
      rw [last_rd acc (by omega)]
      by_cases hq : rd acc ((acc.length : Int) - 1) = -rd l (i : Int)
      · simp only [if_pos hq, Option.some.injEq]
        rw [show (((acc.length : Int) - 1).toNat) = acc.length - 1 from by omega, take_last]
        exact ih' acc.dropLast (by simp; omega)
      · simp only [if_neg hq, Option.some.injEq]
        exact ih' (acc ++ [rd l i]) (by simp; omega)
theorem impl_freed.ev (a l : List Int) (hs : Small l) (ha : a.length ≤ 1099511627776) (hb : l.length ≤ 1099511627776) : Ev (fun k => impl_freed.f k a l) (pushAll a l) := by
  simp only [impl_freed.f]
  exact Ev.to (impl_freed.ev0 l hs hb l.length 0 a (by omega) (by omega)) (by simp)

/-! ### impl_copyOf -/
theorem impl_copyOf.eq (l : List Int) (h : l.length ≤ 1099511627776) : impl_copyOf.f l = some l := by
  simp only [impl_copyOf.f, Option.bind_some, List.nil_append, List.length_nil]
  rw [if_pos (by omega)]

/-! ### impl_size -/
theorem impl_size.eq (x : Int) (h : -4611686018427387904 ≤ x ∧ x ≤ 4611686018427387904) : impl_size.f x = some (absI x) := by
  have e : wrap64 (-x) = -x := w64 (by omega) (by omega)
  simp only [impl_size.f, e, absI]

/-! ### impl_imageBy -/
-- use LibStrand
theorem impl_imageBy.ev (y x : Int) (hy : y ≠ 0 ∧ -7 ≤ y ∧ y ≤ 7) : Ev (fun k => impl_imageBy.f k y x) (imgW y x) := by
  have hk1 := absI_pos hy.1
  have hk7 := absI_bd hy.2
  have wp := Aside0.mk (w64 (x := absI y + 1) (by omega) (by omega))
  have wn := Aside0.mk (w64 (x := -absI y) (by omega) (by omega))
  have wn1 := Aside0.mk (w64 (x := -(absI y + 1)) (by omega) (by omega))
  unfold imgW
  have hsz := impl_size.eq y (by omega)
  simp only [impl_imageBy.f, hsz, Option.bind_some]
  by_cases h : y > 0
  · have h' : ¬ y < 0 := by omega
    simp only [if_pos h]
    refine Ev.succ ?_
    simp only [impl_imageBy.j0, wp.out, wn.out, if_pos h]
    by_cases e1 : x = absI y
    · simp only [e1, beq_self_eq_true, if_true, h, true_and]
      exact Ev.now _
    · have b1 : (x == absI y) = false := by simp [e1]
      simp only [b1, Bool.false_eq_true, if_false]
      refine Ev.succ ?_
      simp only [impl_imageBy.j1, if_neg h']
      by_cases e2 : x = absI y + 1
      · have b2 : (x == absI y + 1) = true := by simp [e2]
        simp only [b2, if_true]
        exact Ev.pure (by simp [e2, h] <;> omega)
      · have b2 : (x == absI y + 1) = false := by simp [e2]
        simp only [b2, Bool.false_eq_true, if_false]
        refine Ev.succ ?_
        simp only [impl_imageBy.j2, Bool.false_eq_true, if_false, if_neg h']
        exact Ev.pure (by simp [e1, e2])
  · have h' : y < 0 := by omega
    simp only [if_neg h]
    refine Ev.succ ?_
    simp only [impl_imageBy.j0, Bool.false_eq_true, if_false, if_neg h]
    refine Ev.succ ?_
    simp only [impl_imageBy.j1, Bool.false_eq_true, if_false, if_pos h']
    refine Ev.succ ?_
    simp only [impl_imageBy.j2, wp.out, wn1.out, if_pos h']
    by_cases e1 : x = absI y
    · have b1 : (x == absI y) = true := by simp [e1]
      simp only [b1, if_true]
      exact Ev.pure (by simp [e1, h, h'])
    · have b1 : (x == absI y) = false := by simp [e1]
      simp only [b1, Bool.false_eq_true, if_false]
      by_cases e2 : x = absI y + 1
      · simp only [if_pos e2]
        exact Ev.pure (by simp [e2, h, h'] <;> omega)
      · simp only [if_neg e2]
        exact Ev.pure (by simp [e1, e2])

/-! ### impl_backward -/
theorem impl_backward.ev0 (l : List Int) (hs : Small l) (hb : l.length ≤ 1099511627776) : ∀ (d : Nat) (acc : List Int), d ≤ l.length → acc.length + d ≤ 1099511627776 →
    Ev (fun k => impl_backward.l0 k l acc ((d : Int) - 1)) (acc ++ back (l.take d)) := by
  intro d
  induction d with
  | zero =>
    intro acc hd ha
    refine Ev.succ ?_
    simp (disch := omega) only [impl_backward.l0, if_neg]
    exact Ev.pure (by simp [back])
  | succ d ih =>
    intro acc hd ha
    refine Ev.succ ?_
    have hx := hs.rd d (by omega)
    have e : ((d + 1 : Nat) : Int) - 1 = (d : Int) := by omega
    rw [e]
    simp (disch := omega) only [impl_backward.l0, if_pos, w64]
    refine Ev.to (ih (acc ++ [-rd l (d : Int)]) (by omega) (by simp; omega)) ?_
    rw [take_rd l d (by omega), back_snoc]
    simp
theorem impl_backward.ev (l : List Int) (hs : Small l) (hb : l.length ≤ 1099511627776) : Ev (fun k => impl_backward.f k l) (back l) := by
  have e : wrap64 ((l.length : Int) - 1) = (l.length : Int) - 1 := w64 (by omega) (by omega)
  simp only [impl_backward.f, e]
  exact Ev.to (impl_backward.ev0 l hs hb l.length [] (by omega) (by simpa using hb)) (by simp)

/-! ### impl_act -/
-- use LibStrand
theorem impl_act.ev1 (l w : List Int) (p : Nat) (hp : p < l.length) (y : Int) (hy : y ≠ 0 ∧ -7 ≤ y ∧ y ≤ 7) (hw : Gens w) (hwl : w.length ≤ 4000) (R : List Int × Int) : ∀ (d i : Nat) (acc : List Int), i + d = w.length → Gens acc → acc.length ≤ 3 * i →
    (Ev (fun k => impl_act.l1 k y ((w.drop i).foldl (fun acc x => pushAll acc (imgS y x)) acc) l (l.length : Int) (p : Int) w (w.length : Int) (w.length : Int)) R) → Ev (fun k => impl_act.l1 k y acc l (l.length : Int) (p : Int) w (w.length : Int) (i : Int)) R := by
  intro d
  induction d with
  | zero =>
    intro i acc hi hg ha hR
    rw [drop_len _ _ (by omega)] at hR
    have : i = w.length := by omega
    subst this
    exact hR
  | succ d ih =>
    intro i acc hi hg ha hR
    have hx := hw _ (rd_mem w i (by omega))
    have hk1 := absI_pos hx.1
    have hk8 := absI_bd hx.2
    have W := Aside0.mk (w64 (x := -rd w (i : Int)) (by omega) (by omega))
    have w1 := Aside0.mk (w64 (x := (i : Int) + 1) (by omega) (by omega))
    have hgi := imgS_gens hy hx
    have hli := imgS_length y (rd w (i : Int))
    have hpl := pushAll_length acc (imgS y (rd w (i : Int)))
    have c1 : (i : Int) < (w.length : Int) := by omega
    have c2 : 0 ≤ (i : Int) := by omega
    rw [drop_rd w i (by omega), List.foldl_cons] at hR
    have next := ih (i + 1) (pushAll acc (imgS y (rd w (i : Int)))) (by omega) (fun z hz => by
      rcases pushAll_mem hz with h | h
      · exact hg z h
      · exact hgi z h) (by omega) hR
    refine Ev.succ ?_
    simp only [impl_act.l1, if_pos c1, if_pos c2, W.out, w1.out]
    by_cases h : rd w (i : Int) > 0
    · have ea : absI (rd w (i : Int)) = rd w (i : Int) := by rw [absI_eq, if_pos (by omega)]
      have es : imgS y (rd w (i : Int)) = imgW y (rd w (i : Int)) := by rw [imgS, if_neg (by omega), ea]
      rw [es] at next hgi hli
      simp only [if_pos h]
      refine Ev.bind (impl_imageBy.ev _ _ hy) ?_
      exact Ev.bind (impl_freed.ev acc _ hgi.small (by omega) (by omega)) next
    · have ea : absI (rd w (i : Int)) = -rd w (i : Int) := by rw [absI_eq, if_neg (by omega)]
      have es : imgS y (rd w (i : Int)) = back (imgW y (-rd w (i : Int))) := by rw [imgS, if_pos (by omega), ea]
      have hiw := imgW_gens hy (x := -rd w (i : Int)) ⟨by omega, by omega, by omega⟩
      have hil := imgW_length y (-rd w (i : Int))
      rw [es] at next hgi hli
      simp only [if_neg h]
      refine Ev.bind (impl_imageBy.ev _ _ hy) ?_
      refine Ev.bind (impl_backward.ev _ hiw.small (by omega)) ?_
      exact Ev.bind (impl_freed.ev acc _ hgi.small (by omega) (by omega)) next
theorem impl_act.ev0 (l : List Int) (hb : l.length ≤ 200) (hl : ∀ y ∈ l, y ≠ 0 ∧ -7 ≤ y ∧ y ≤ 7) : ∀ (d p : Nat) (w : List Int), p + d = l.length → Gens w → w.length ≤ 4000 →
    Ev (fun k => impl_act.l0 k w l (l.length : Int) (p : Int)) (match actAll (l.drop p) w with | some r => (r, 0) | none => ([], 3)) := by
  intro d
  induction d with
  | zero =>
    intro p w hp hw hwl
    refine Ev.succ ?_
    have c1 : ¬ (p : Int) < (l.length : Int) := by omega
    simp only [impl_act.l0, if_neg c1]
    rw [drop_len _ _ (by omega)]
    exact Ev.now _
  | succ d ih =>
    intro p w hp hw hwl
    refine Ev.succ ?_
    have hy := hl _ (rd_mem l p (by omega))
    have c1 : (p : Int) < (l.length : Int) := by omega
    have c0 : 0 ≤ (p : Int) := by omega
    have w1 := Aside0.mk (w64 (x := (p : Int) + 1) (by omega) (by omega))
    simp only [impl_act.l0, if_pos c1, if_pos c0]
    refine impl_act.ev1 l w p (by omega) _ hy hw hwl _ w.length 0 [] (by omega) (by simp [Gens]) (by simp) ?_
    rw [List.drop_zero]
    rw [show w.foldl (fun acc x => pushAll acc (imgS (rd l (p : Int)) x)) [] = act1 (rd l (p : Int)) w from rfl]
    have hg := act1_gens hy hw
    refine Ev.succ ?_
    have c2 : ¬ (w.length : Int) < (w.length : Int) := by omega
    rw [drop_rd l p (by omega)]
    simp only [impl_act.l1, if_neg c2, w1.out, actAll]
    by_cases h : ((act1 (rd l (p : Int)) w).length : Int) > 4000
    · simp only [if_pos h]
      exact Ev.now _
    · simp only [if_neg h]
      exact ih (p + 1) _ (by omega) hg (by omega)
theorem impl_act.ev (l w : List Int) (hb : l.length ≤ 200) (hl : ∀ y ∈ l, y ≠ 0 ∧ -7 ≤ y ∧ y ≤ 7) (hw : Gens w) (hwl : w.length ≤ 4000) :
    Ev (fun k => impl_act.f k l w) (match actAll l w with | some r => (r, 0) | none => ([], 3)) := by
  have e := impl_copyOf.eq w (by omega)
  simp only [impl_act.f, e, Option.bind_some]
  exact Ev.to (impl_act.ev0 l hb hl l.length 0 w (by omega) hw hwl) (by rw [List.drop_zero])

/-! ### impl_ImagesOf -/
-- use LibStrand
theorem impl_ImagesOf.ev0 (l : List Int) (hb : l.length ≤ 200) (hl : ∀ y ∈ l, y ≠ 0 ∧ -7 ≤ y ∧ y ≤ 7) (n : Int) (hn : n ≤ 8) : ∀ (d : Nat) (i : Int) (acc : List (List Int)), i + d = n + 1 → 1 ≤ i → acc.length ≤ i →
    Ev (fun k => impl_ImagesOf.l0 k acc i n l) (match imagesGo l d i acc with | some r => (r, 0) | none => ([], 3)) := by
  intro d
  induction d with
  | zero =>
    intro i acc hi h1 ha
    refine Ev.succ ?_
    have c1 : ¬ i ≤ n := by omega
    simp only [impl_ImagesOf.l0, if_neg c1, imagesGo]
    exact Ev.now _
  | succ d ih =>
    intro i acc hi h1 ha
    refine Ev.succ ?_
    have c1 : i ≤ n := by omega
    have w1 := Aside0.mk (w64 (x := i + 1) (by omega) (by omega))
    have hg : Gens [i] := fun x hx => by rw [List.mem_singleton.1 hx]; omega
    simp only [impl_ImagesOf.l0, if_pos c1, imagesGo]
    refine Ev.bind (impl_act.ev l [i] hb hl hg (by simp)) ?_
    cases e : actAll l [i] with
    | none => exact Ev.now _
    | some w =>
      have c2 : acc.length < 5864062014805 := by omega
      simp only [if_true, if_pos c2, w1.out]
      exact ih (i + 1) _ (by omega) (by omega) (by simp; omega)
theorem impl_ImagesOf.ev (n : Int) (l : List Int) : Ev (fun k => impl_ImagesOf.f k n l) (imagesM n l) := by
  simp only [impl_ImagesOf.f]
  refine Ev.bind (impl_IsBraid.ev n l) ?_
  unfold imagesM
  by_cases h : isBraidB n l = true
  · have hn := (isBraidB_iff.1 h).1
    simp only [if_pos h]
    exact impl_ImagesOf.ev0 l (isBraidB_iff.1 h).2.1 (braid_letters h) n (by omega) n.toNat 1 [] (by omega) (by omega) (by simp)
  · simp only [if_neg h]
    exact Ev.now _

/-! ### slices_Equal_int64_int64 -/
theorem slices_Equal_int64_int64.ev0 (l m : List Int) (hb : l.length ≤ 1099511627776) (hlm : l.length = m.length) : ∀ (d i : Nat), i + d = l.length →
    Ev (fun k => slices_Equal_int64_int64.l0 k l m (l.length : Int) (i : Int)) (decide (l.drop i = m.drop i)) := by
  intro d
  induction d with
  | zero =>
    intro i hi
    refine Ev.succ ?_
    have c1 : ¬ (i : Int) < (l.length : Int) := by omega
    simp only [slices_Equal_int64_int64.l0, if_neg c1]
    exact Ev.pure (by rw [List.drop_of_length_le (by omega), List.drop_of_length_le (by omega)]; rfl)
  | succ d ih =>
    intro i hi
    refine Ev.succ ?_
    have c1 : (i : Int) < (l.length : Int) := by omega
    have c2 : 0 ≤ (i : Int) := by omega
    have c3 : (i : Int) < (m.length : Int) := by omega
    have w1 := Aside0.mk (w64 (x := (i : Int) + 1) (by omega) (by omega))
    rw [drop_rd l i (by omega), drop_rd m i (by omega)]
    by_cases h : rd l (i : Int) = rd m (i : Int)
    · simp only [slices_Equal_int64_int64.l0, if_pos c1, if_pos c2, if_pos c3, if_pos h, w1.out]
      exact Ev.to (ih (i + 1) (by omega)) (by simp [h])
    · simp only [slices_Equal_int64_int64.l0, if_pos c1, if_pos c2, if_pos c3, if_neg h]
      exact Ev.pure (by simp [h])
theorem slices_Equal_int64_int64.ev (l m : List Int) (hb : l.length ≤ 1099511627776) : Ev (fun k => slices_Equal_int64_int64.f k l m) (decide (l = m)) := by
  by_cases h : l.length = m.length
  · have h' : (l.length : Int) = (m.length : Int) := by omega
    simp only [slices_Equal_int64_int64.f, if_pos h']
    exact Ev.to (slices_Equal_int64_int64.ev0 l m hb h l.length 0 (by omega)) (by simp)
  · have h' : ¬ (l.length : Int) = (m.length : Int) := by omega
    simp only [slices_Equal_int64_int64.f, if_neg h']
    exact Ev.pure (by symm; exact decide_eq_false (fun e => h (by rw [e])))

/-! ### impl_SameAction -/
-- use LibSame
theorem impl_SameAction.ev0 (x y : List (List Int)) (hb : x.length ≤ 8) (hxy : x.length = y.length) (hx : ∀ q ∈ x, q.length ≤ 4000) : ∀ (d i : Nat), i + d = x.length →
    Ev (fun k => impl_SameAction.e0 k x y (i : Int)) (decide (x.drop i = y.drop i)) := by
  intro d
  induction d with
  | zero =>
    intro i hi
    refine Ev.succ ?_
    have c1 : ¬ (i : Int) < (x.length : Int) := by omega
    simp only [impl_SameAction.e0, if_neg c1]
    exact Ev.pure (by rw [List.drop_of_length_le (by omega), List.drop_of_length_le (by omega)]; rfl)
  | succ d ih =>
    intro i hi
    refine Ev.succ ?_
    have c1 : (i : Int) < (x.length : Int) := by omega
    have c2 : 0 ≤ (i : Int) := by omega
    have c3 : (i : Int) < (y.length : Int) := by omega
    have w1 := Aside0.mk (w64 (x := (i : Int) + 1) (by omega) (by omega))
    have hxi := hx _ (rdl_mem x i (by omega))
    rw [drop_rdl x i (by omega), drop_rdl y i (by omega)]
    simp only [impl_SameAction.e0, rdL1_eq, if_pos c1, if_pos c2, if_pos c3, w1.out]
    refine Ev.bind (slices_Equal_int64_int64.ev (rdl x (i : Int)) (rdl y (i : Int)) (by omega)) ?_
    by_cases h : rdl x (i : Int) = rdl y (i : Int)
    · simp only [decide_eq_true h, if_true]
      exact Ev.to (ih (i + 1) (by omega)) (by simp [h])
    · simp only [decide_eq_false h, Bool.false_eq_true, if_false]
      exact Ev.pure (by simp [h])
theorem impl_SameAction.eve (x y : List (List Int)) (hb : x.length ≤ 8) (hx : ∀ q ∈ x, q.length ≤ 4000) : Ev (fun k => impl_SameAction.e k x y) (decide (x = y)) := by
  by_cases h : x.length = y.length
  · have h' : (x.length : Int) = (y.length : Int) := by omega
    simp only [impl_SameAction.e, if_pos h']
    exact Ev.to (impl_SameAction.ev0 x y hb h hx x.length 0 (by omega)) (by simp)
  · have h' : ¬ (x.length : Int) = (y.length : Int) := by omega
    simp only [impl_SameAction.e, if_neg h']
    exact Ev.pure (by symm; exact decide_eq_false (fun e => h (by rw [e])))
theorem impl_SameAction.ev (n : Int) (l : List Int) (m : Int) (s : List Int) : Ev (fun k => impl_SameAction.f k n l m s) (sameM n l m s) := by
  simp only [impl_SameAction.f]
  refine Ev.bind (impl_IsBraid.ev n l) ?_
  unfold sameM
  by_cases h : isBraidB n l = true
  · simp only [if_pos h]
    refine Ev.bind (impl_IsBraid.ev m s) ?_
    by_cases hs : isBraidB m s = true
    · simp only [if_pos hs]
      by_cases e : n = m
      · simp only [if_pos e]
        refine Ev.bind (impl_ImagesOf.ev n l) ?_
        cases e1 : imagesGo l n.toNat 1 [] with
        | none =>
          simp only [imagesM, if_pos h, e1]
          exact Ev.now _
        | some x =>
          simp only [imagesM, if_pos h, e1, if_true]
          have hm : Ev (fun k => impl_ImagesOf.f k m s) (imagesM m s) := impl_ImagesOf.ev m s
          refine Ev.bind hm ?_
          cases e2 : imagesGo s m.toNat 1 [] with
          | none =>
            simp only [imagesM, if_pos hs, e2]
            exact Ev.now _
          | some y =>
            simp only [imagesM, if_pos hs, e2, if_true]
            have b := imagesGo_ok (isBraidB_iff.1 h).1 e1
            have hn := (isBraidB_iff.1 h).1
            exact Ev.bind (impl_SameAction.eve x y (by omega) b.2) (Ev.now _)
      · simp only [if_neg e]
        exact Ev.now _
    · simp only [if_neg hs]
      exact Ev.now _
  · simp only [if_neg h]
    exact Ev.now _

-- says For every two braid-shaped inputs the program's SameAction returns what the reference's returns and keeps its arguments; no conditions.
-- row braid braid
-- use LibSame
theorem law (n : Int) (l : List Int) (m : Int) (s : List Int) (hl : l.length ≤ maxLen) (hw : ∀ x ∈ l, (Lit.int .i64 x).wf = true) (hm : s.length ≤ maxLen) (hws : ∀ x ∈ s, (Lit.int .i64 x).wf = true) : ∃ k, laws_FnExactSameAction.f k n l m s = some true := by
  have hf := Fits.of hw
  have hg := Fits.of hws
  have hsz := laws_szBraid.eq n l 1048576 (by omega) (by omega) hl
  by_cases hz : (1048576 : Int) - l.length < 0
  · rw [if_pos hz] at hsz
    exact ⟨0, by simp only [laws_FnExactSameAction.f, hsz, Option.bind_some]; rfl⟩
  rw [if_neg hz] at hsz
  have hsz2 := laws_szBraid.eq m s ((1048576 : Int) - l.length) (by omega) (by omega) hm
  by_cases hz2 : (1048576 : Int) - l.length - s.length < 0
  · rw [if_pos hz2] at hsz2
    exact ⟨0, by simp only [laws_FnExactSameAction.f, hsz, Option.bind_some, if_neg hz, hsz2]; rfl⟩
  rw [if_neg hz2] at hsz2
  obtain ⟨r, c, hr⟩ : ∃ r c, sameM n l m s = (r, c) := ⟨_, _, rfl⟩
  have h1 := laws_toBraid.ev n l (by omega)
  have h1' := laws_toBraid.ev m s (by omega)
  have h2 := spec_SameAction.ev n l m s hf hg
  have h3 := impl_SameAction.ev n l m s
  rw [hr] at h2 h3
  have h4 := laws_eqBraid.ev n n l l (by omega)
  have h4' := laws_eqBraid.ev m m s s (by omega)
  refine Ev.rounds ?_
  simp only [laws_FnExactSameAction.f, hsz, Option.bind_some, if_neg hz, hsz2, if_neg hz2]
  (try simp only [laws_FnExactSameAction.f])
  repeat (first | (with_reducible refine Ev.bind h1 ?_; (try dsimp only)) | (with_reducible refine Ev.bind h1' ?_; (try dsimp only)) | (with_reducible refine Ev.bind h2 ?_; (try dsimp only)) | (with_reducible refine Ev.bind h3 ?_; (try dsimp only)) | (with_reducible refine Ev.bind h4 ?_; (try dsimp only)) | (with_reducible refine Ev.bind h4' ?_; (try dsimp only)) | (simp only [if_true, if_false, eq_self, decide_true, decide_false, Bool.and_self, Bool.true_and, Bool.and_true, bne_self_eq_false, Bool.not_true, Bool.not_false, Bool.false_eq_true, reduceCtorEq, iota_length]))
  refine Ev.succ ?_
  simp only [laws_FnExactSameAction.j0]
  repeat (first | (with_reducible refine Ev.bind h1 ?_; (try dsimp only)) | (with_reducible refine Ev.bind h1' ?_; (try dsimp only)) | (with_reducible refine Ev.bind h2 ?_; (try dsimp only)) | (with_reducible refine Ev.bind h3 ?_; (try dsimp only)) | (with_reducible refine Ev.bind h4 ?_; (try dsimp only)) | (with_reducible refine Ev.bind h4' ?_; (try dsimp only)) | (simp only [if_true, if_false, eq_self, decide_true, decide_false, Bool.and_self, Bool.true_and, Bool.and_true, bne_self_eq_false, Bool.not_true, Bool.not_false, Bool.false_eq_true, reduceCtorEq, iota_length]))
  exact Ev.now _

end Go.Proofs.Ytppkpeephommhaa.PureFnExactSameAction
