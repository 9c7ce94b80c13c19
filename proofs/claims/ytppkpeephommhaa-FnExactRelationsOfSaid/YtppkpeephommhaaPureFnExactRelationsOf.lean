/- For every braid-shaped input the program's RelationsOf returns what the reference's returns, keeps its argument and shares no memory; no conditions. -/
import Derived.Test.YtppkpeephommhaaMFnExactRelationsOfx
import Derived.Test.YtppkpeephommhaaLib
import Derived.Test.YtppkpeephommhaaLibRel
import Derived.Test.YtppkpeephommhaaLibRows
import Derived.Test.YtppkpeephommhaaLibStrand
set_option linter.unusedVariables false
set_option linter.unusedSimpArgs false
set_option maxRecDepth 10000
set_option maxHeartbeats 4000000
namespace Go.Proofs.Ytppkpeephommhaa.PureFnExactRelationsOf
open Go.RowKit Go.Proofs.Ytppkpeephommhaa.MFnExactRelationsOf Go.Proofs.YtppkpeephommhaaW.PrintWords Go.Proofs.Ytppkpeephommhaa.Lib

theorem rdL1_eq (xs : List (List Int)) (i : Int) : rd_L1 xs i = rdl xs i := by
  have h : rd_L1 xs i = xs.getD i.toNat [] := by unfold rd_L1; rfl
  rw [h, rdl]

/-! ### laws_szInt64S -/
theorem laws_szInt64S.eq (l : List Int) (x : Int) (h0 : 0 ≤ x) (h1 : x ≤ 1048576) (hl : l.length ≤ maxLen) : laws_szInt64S.f l x = some (if x - l.length < 0 then -1 else x - l.length) := by
  unfold maxLen at hl
  simp (disch := omega) only [laws_szInt64S.f, w64]
  split <;> rfl

/-! ### laws_szBraid -/
theorem laws_szBraid.eq (n : Int) (l : List Int) (x : Int) (h0 : 0 ≤ x) (h1 : x ≤ 1048576) (hl : l.length ≤ maxLen) : laws_szBraid.f n l x = some (if x - l.length < 0 then -1 else x - l.length) := by
  simp (disch := assumption) only [laws_szBraid.f, laws_szInt64S.eq, Option.bind_some]
  by_cases h : x - l.length < 0
  · simp [h]
  · simp [h]

/-! ### laws_toInt64S -/
theorem laws_toInt64S.ev0 (l : List Int) (hb : l.length ≤ 17592186044416) : ∀ (d i : Nat) (acc : List Int), i + d = l.length → acc.length = l.length →
    Ev (fun k => laws_toInt64S.l0 k l acc (i : Int)) (acc.take i ++ l.drop i) := by
  intro d
  induction d with
  | zero =>
    intro i acc hi ha
    refine Ev.succ ?_
    simp (disch := omega) only [laws_toInt64S.l0, if_neg]
    exact Ev.pure (by rw [List.take_of_length_le (by omega), List.drop_of_length_le (by omega), List.append_nil])
  | succ d ih =>
    intro i acc hi ha
    refine Ev.succ ?_
    simp (disch := omega) only [laws_toInt64S.l0, if_pos, w64]
    refine Ev.to (ih (i + 1) (acc.set i (rd l i)) (by omega) (by simpa using ha)) ?_
    rw [take_set_succ _ _ _ (by omega), drop_rd l i (by omega), List.append_assoc]; rfl
theorem laws_toInt64S.ev (l : List Int) (hb : l.length ≤ 17592186044416) : Ev (fun k => laws_toInt64S.f k l) l := by
  simp (disch := omega) only [laws_toInt64S.f, if_pos]
  refine Ev.to (laws_toInt64S.ev0 l hb l.length 0 (List.replicate l.length 0) (by omega) (by simp)) (by simp)

/-! ### laws_toBraid -/
theorem laws_toBraid.ev (n : Int) (l : List Int) (hb : l.length ≤ 17592186044416) : Ev (fun k => laws_toBraid.f k n l) (n, l) := by
  simp only [laws_toBraid.f]
  exact Ev.bind (laws_toInt64S.ev l hb) (Ev.now _)

/-! ### laws_eqInt64S -/
theorem laws_eqInt64S.ev0 (l m : List Int) (hb : l.length ≤ 4611686018427387904) (hlm : l.length = m.length) : ∀ (d i : Nat), i + d = l.length →
    Ev (fun k => laws_eqInt64S.l0 k l m (i : Int)) (decide (l.drop i = m.drop i)) := by
  intro d
  induction d with
  | zero =>
    intro i hi
    refine Ev.succ ?_
    simp (disch := omega) only [laws_eqInt64S.l0, if_neg]
    exact Ev.pure (by rw [List.drop_of_length_le (by omega), List.drop_of_length_le (by omega)]; simp)
  | succ d ih =>
    intro i hi
    refine Ev.succ ?_
    simp (disch := omega) only [laws_eqInt64S.l0, if_pos, w64]
    rw [drop_rd l i (by omega), drop_rd m i (by omega)]
    by_cases h : rd l i = rd m i
    · simp only [if_pos h]
      refine Ev.to (ih (i + 1) (by omega)) (by simp [h])
    · simp only [if_neg h]
      exact Ev.pure (by simp [h])
theorem laws_eqInt64S.ev (l m : List Int) (hb : l.length ≤ 4611686018427387904) : Ev (fun k => laws_eqInt64S.f k l m) (decide (l = m)) := by
  by_cases h : l.length = m.length
  · simp (disch := omega) only [laws_eqInt64S.f, if_pos]
    exact Ev.to (laws_eqInt64S.ev0 l m hb h l.length 0 (by omega)) (by simp)
  · simp (disch := omega) only [laws_eqInt64S.f, if_neg]
    exact Ev.pure (by simp; intro e; exact h (by rw [e]))

/-! ### laws_eqInt64SS -/
theorem laws_eqInt64SS.ev0 (l : List (List Int)) (hb : l.length ≤ 4611686018427387904) (hr : ∀ q ∈ l, q.length ≤ 4611686018427387904) : ∀ (d i : Nat), i + d = l.length →
    Ev (fun k => laws_eqInt64SS.l0 k l l (i : Int)) true := by
  intro d
  induction d with
  | zero =>
    intro i hi
    refine Ev.succ ?_
    simp (disch := omega) only [laws_eqInt64SS.l0, if_neg]
    exact Ev.now _
  | succ d ih =>
    intro i hi
    refine Ev.succ ?_
    simp (disch := omega) only [laws_eqInt64SS.l0, if_pos, w64, rdL1_eq]
    refine Ev.bind (laws_eqInt64S.ev _ _ (hr _ (rdl_mem l i (by omega)))) ?_
    simp only [decide_true, if_true]
    exact ih (i + 1) (by omega)
theorem laws_eqInt64SS.refl (l : List (List Int)) (hb : l.length ≤ 4611686018427387904) (hr : ∀ q ∈ l, q.length ≤ 4611686018427387904) : Ev (fun k => laws_eqInt64SS.f k l l) true := by
  simp only [laws_eqInt64SS.f, if_true]
  exact laws_eqInt64SS.ev0 l hb hr l.length 0 (by omega)

/-! ### laws_eqBraid -/
theorem laws_eqBraid.ev (n m : Int) (l s : List Int) (hb : l.length ≤ 4611686018427387904) : Ev (fun k => laws_eqBraid.f k n l m s) (decide (n = m) && decide (l = s)) := by
  simp only [laws_eqBraid.f]
  by_cases h : n = m
  · simp only [if_pos h]
    refine Ev.bind (laws_eqInt64S.ev l s hb) ?_
    by_cases h' : l = s <;> simp [h, h'] <;> exact Ev.now _
  · simp only [if_neg h]
    exact Ev.pure (by simp [h])

/-! ### laws_markInt64S -/
theorem laws_markInt64S.ev0 (n : Nat) (hb : n ≤ 4611686018427387904) : ∀ (d i : Nat) (acc : List Int) (x : Int), i + d = n → acc.length = n → -4611686018427387904 ≤ x → x + d ≤ 4611686018427387904 →
    Ev (fun k => laws_markInt64S.l0 k acc x (i : Int)) (x + d, acc.take i ++ iota x d) := by
  intro d
  induction d with
  | zero =>
    intro i acc x hi ha h0 h1
    refine Ev.succ ?_
    simp (disch := omega) only [laws_markInt64S.l0, if_neg]
    exact Ev.pure (by rw [List.take_of_length_le (by omega)]; simp [iota])
  | succ d ih =>
    intro i acc x hi ha h0 h1
    refine Ev.succ ?_
    simp (disch := omega) only [laws_markInt64S.l0, if_pos, w64]
    refine Ev.to (ih (i + 1) (acc.set i x) (x + 1) (by omega) (by simpa using ha) (by omega) (by omega)) ?_
    rw [take_set_succ _ _ _ (by omega), List.append_assoc]
    exact Prod.ext (by simp; omega) rfl
theorem laws_markInt64S.ev (l : List Int) (x : Int) (h0 : 0 ≤ x) (h1 : x + l.length ≤ 4611686018427387904) : Ev (fun k => laws_markInt64S.f k l x) (x + l.length, iota x l.length) := by
  simp only [laws_markInt64S.f]
  exact Ev.to (laws_markInt64S.ev0 l.length (by omega) l.length 0 l x (by omega) rfl (by omega) h1) (by simp)

/-! ### laws_markBraid -/
theorem laws_markBraid.ev (n : Int) (l : List Int) (x : Int) (h0 : 0 ≤ x) (h1 : x + l.length ≤ 4611686018427387904) : Ev (fun k => laws_markBraid.f k n l x) (x + l.length, iota x l.length) := by
  simp only [laws_markBraid.f]
  exact Ev.bind (laws_markInt64S.ev l x h0 h1) (Ev.now _)

/-! ### laws_heldInt64S -/
theorem laws_heldInt64S.ev0 (x0 : Int) (n : Nat) (h0 : -4611686018427387904 ≤ x0) (hb : x0 + n ≤ 4611686018427387904) (hn : n ≤ 4611686018427387904) : ∀ (d i : Nat), i + d = n →
    Ev (fun k => laws_heldInt64S.l0 k (iota x0 n) (x0 + i) (i : Int)) (x0 + n) := by
  intro d
  have hl := iota_length x0 n
  induction d with
  | zero =>
    intro i hi
    refine Ev.succ ?_
    simp (disch := omega) only [laws_heldInt64S.l0, if_neg]
    exact Ev.pure (by omega)
  | succ d ih =>
    intro i hi
    refine Ev.succ ?_
    have e := rd_iota n i x0 (by omega)
    simp (disch := omega) only [laws_heldInt64S.l0, if_pos, w64]
    refine Ev.to (Ev.congr (fun k => ?_) (ih (i + 1) (by omega))) rfl
    congr 1
    omega
theorem laws_heldInt64S.ev (x : Int) (n : Nat) (h0 : -4611686018427387904 ≤ x) (h1 : x + n ≤ 4611686018427387904) (hn : n ≤ 4611686018427387904) : Ev (fun k => laws_heldInt64S.f k (iota x n) x) (x + n) := by
  simp only [laws_heldInt64S.f]
  refine Ev.congr (fun k => ?_) (laws_heldInt64S.ev0 x n h0 h1 hn n 0 (by omega))
  simp

/-! ### laws_heldInt64SS -/
-- use LibRows
theorem laws_heldInt64SS.ev0 (x0 : Int) (l : List (List Int)) (hl : l.length ≤ 1048576) : ∀ (d i : Nat) (x : Int), i + d = l.length → 0 ≤ x → x + total (l.drop i) ≤ 4611686018427387904 → (iotaSS x0 l).drop i = iotaSS x (l.drop i) →
    Ev (fun t => laws_heldInt64SS.l0 t (iotaSS x0 l) x (i : Int)) (x + total (l.drop i)) := by
  have hll := iotaSS_length x0 l
  intro d
  induction d with
  | zero =>
    intro i x hi h0 h1 he
    refine Ev.succ ?_
    have c1 : ¬ (i : Int) < ((iotaSS x0 l).length : Int) := by omega
    simp only [laws_heldInt64SS.l0, if_neg c1]
    exact Ev.pure (by rw [List.drop_of_length_le (by omega)]; simp [total])
  | succ d ih =>
    intro i x hi h0 h1 he
    refine Ev.succ ?_
    have c1 : (i : Int) < ((iotaSS x0 l).length : Int) := by omega
    have c2 : 0 ≤ (i : Int) := by omega
    rw [drop_rdl l i (by omega)] at h1 he ⊢
    rw [drop_rdl (iotaSS x0 l) i (by omega)] at he
    simp only [total, iotaSS, List.cons.injEq] at h1 he ⊢
    have w1 := Aside0.mk (w64 (x := (i : Int) + 1) (by omega) (by omega))
    simp only [laws_heldInt64SS.l0, if_pos c1, if_pos c2, rdL1_eq, he.1]
    refine Ev.bind (laws_heldInt64S.ev x _ (by omega) (by omega) (by omega)) ?_
    have c3 : ¬ (x + ((rdl l (i : Int)).length : Int) < 0) := by omega
    simp only [if_neg c3, w1.out]
    exact Ev.to (ih (i + 1) _ (by omega) (by omega) (by omega) he.2) (by omega)
theorem laws_heldInt64SS.ev (x : Int) (l : List (List Int)) (hl : l.length ≤ 1048576) (h0 : 0 ≤ x) (h1 : x + total l ≤ 4611686018427387904) : Ev (fun t => laws_heldInt64SS.f t (iotaSS x l) x) (x + total l) := by
  simp only [laws_heldInt64SS.f]
  exact Ev.to (laws_heldInt64SS.ev0 x l hl l.length 0 x (by omega) h0 (by simpa using h1) (by simp)) (by simp)

/-! ### spec_l01In -/
theorem spec_l01In.eq (a lo hi : Int) : spec_l01In.f a lo hi = some (inB a lo hi) := by
  unfold spec_l01In.f inB
  by_cases h : lo ≤ a <;> simp [h]

/-! ### spec_l01Is -/
theorem spec_l01Is.letter (n x : Int) (h1 : 1 ≤ n) (h8 : n ≤ 8) (hx : -9223372036854775808 ≤ x ∧ x ≤ 9223372036854775807) : (inB x 1 (n - 1) || inB (wrap64 (-x)) 1 (n - 1)) = letterB n x := by
  unfold inB letterB inB wrap64
  rw [Bool.eq_iff_iff]; simp; omega
theorem spec_l01Is.ev0 (n : Int) (l : List Int) (h1 : 1 ≤ n) (h8 : n ≤ 8) (hb : l.length ≤ 200) (hf : Fits l) : ∀ (d i : Nat), i + d = l.length →
    Ev (fun k => spec_l01Is.l0 k (i : Int) n l) ((l.drop i).all (letterB n)) := by
  intro d
  induction d with
  | zero =>
    intro i hi
    refine Ev.succ ?_
    simp (disch := omega) only [spec_l01Is.l0, if_neg]
    exact Ev.pure (by rw [List.drop_of_length_le (by omega)]; rfl)
  | succ d ih =>
    intro i hi
    refine Ev.succ ?_
    have hx := hf (rd l i) (rd_mem l i (by omega))
    have hl := spec_l01Is.letter n (rd l i) h1 h8 hx
    have hw : wrap64 (n - 1) = n - 1 := w64 (by omega) (by omega)
    have hw2 : wrap64 ((i : Int) + 1) = ((i + 1 : Nat) : Int) := w64 (by omega) (by omega)
    simp (disch := omega) only [spec_l01Is.l0, if_pos, hw, hw2, spec_l01In.eq, Option.bind_some]
    rw [drop_rd l i (by omega), List.all_cons, ← hl]
    cases h : inB (rd l i) 1 (n - 1) with
    | true => simp only [if_true, Bool.true_or, Bool.true_and]; exact ih (i + 1) (by omega)
    | false =>
      cases h' : inB (wrap64 (-(rd l i))) 1 (n - 1) with
      | true => simp only [if_true, Bool.false_or, Bool.true_and, Bool.false_eq_true, if_false]; exact ih (i + 1) (by omega)
      | false => exact Ev.pure (by simp)
theorem spec_l01Is.ev (n : Int) (l : List Int) (hf : Fits l) : Ev (fun k => spec_l01Is.f k n l) (isBraidB n l) := by
  simp only [spec_l01Is.f, spec_l01In.eq, Option.bind_some]
  unfold isBraidB
  cases hn : inB n 1 8 with
  | false =>
    refine Ev.succ ?_
    simp [spec_l01Is.j0]
    exact Ev.now _
  | true =>
    obtain ⟨h1, h8⟩ := inB_iff.1 hn
    refine Ev.succ ?_
    simp only [if_true, spec_l01Is.j0, Bool.true_and]
    by_cases hl : l.length ≤ 200
    · have : ¬ ((l.length : Int) > 200) := by omega
      simp only [this, decide_false, Bool.false_eq_true, if_false, hl, decide_true, Bool.true_and]
      exact Ev.to (spec_l01Is.ev0 n l h1 h8 hl hf l.length 0 (by omega)) (by simp)
    · have : ((l.length : Int) > 200) := by omega
      simp only [this, decide_true, if_true, hl, decide_false, Bool.false_and]
      exact Ev.now _

/-! ### spec_l01Own -/
theorem spec_l01Own.eq (l : List Int) (h : l.length ≤ 1099511627776) : spec_l01Own.f l = some l := by
  simp only [spec_l01Own.f, Option.bind_some, List.nil_append, List.length_nil]
  rw [if_pos (by omega)]

/-! ### spec_l08Image -/
-- use LibStrand
theorem spec_l08Image.ev (y x : Int) (hy : y ≠ 0 ∧ -7 ≤ y ∧ y ≤ 7) : Ev (fun k => spec_l08Image.f k y x) (imgW y x) := by
  have hk1 := absI_pos hy.1
  have hk7 := absI_bd hy.2
  have W := Aside0.mk (w64 (x := -y) (by omega) (by omega))
  have ha : mx y (-y) = absI y := rfl
  have wp := Aside0.mk (w64 (x := absI y + 1) (by omega) (by omega))
  have wn := Aside0.mk (w64 (x := -absI y) (by omega) (by omega))
  have wn1 := Aside0.mk (w64 (x := -(absI y + 1)) (by omega) (by omega))
  unfold imgW
  simp only [spec_l08Image.f, W.out, ha]
  by_cases h : y > 0
  · have h' : ¬ y < 0 := by omega
    simp only [if_pos h]
    refine Ev.succ ?_
    simp only [spec_l08Image.j0, wp.out, wn.out, if_pos h]
    by_cases e1 : x = absI y
    · simp only [e1, beq_self_eq_true, if_true, h, true_and]
      exact Ev.now _
    · have b1 : (x == absI y) = false := by simp [e1]
      simp only [b1, Bool.false_eq_true, if_false]
      refine Ev.succ ?_
      simp only [spec_l08Image.j1, if_neg h']
      by_cases e2 : x = absI y + 1
      · have b2 : (x == absI y + 1) = true := by simp [e2]
        simp only [b2, if_true]
        exact Ev.pure (by simp [e2, h] <;> omega)
      · have b2 : (x == absI y + 1) = false := by simp [e2]
        simp only [b2, Bool.false_eq_true, if_false]
        refine Ev.succ ?_
        simp only [spec_l08Image.j2, Bool.false_eq_true, if_false, if_neg h']
        exact Ev.pure (by simp [e1, e2])
  · have h' : y < 0 := by omega
    simp only [if_neg h]
    refine Ev.succ ?_
    simp only [spec_l08Image.j0, Bool.false_eq_true, if_false, if_neg h]
    refine Ev.succ ?_
    simp only [spec_l08Image.j1, Bool.false_eq_true, if_false, if_pos h']
    refine Ev.succ ?_
    simp only [spec_l08Image.j2, wp.out, wn1.out, if_pos h']
    by_cases e1 : x = absI y
    · have b1 : (x == absI y) = true := by simp [e1]
      simp only [b1, if_true]
      exact Ev.pure (by simp [e1, h, h'])
    · have b1 : (x == absI y) = false := by simp [e1]
      simp only [b1, Bool.false_eq_true, if_false]
      by_cases e2 : x = absI y + 1
      · simp only [if_pos e2]
        exact Ev.pure (by simp [e2, h, h'] <;> omega)
      · simp only [if_neg e2]
        exact Ev.pure (by simp [e1, e2])

/-! ### spec_l08Back -/
theorem spec_l08Back.ev0 (l : List Int) (hs : Small l) (hb : l.length ≤ 1099511627776) : ∀ (d : Nat) (acc : List Int), d ≤ l.length → acc.length + d ≤ 1099511627776 →
    Ev (fun k => spec_l08Back.l0 k l acc ((d : Int) - 1)) (acc ++ back (l.take d)) := by
  intro d
  induction d with
  | zero =>
    intro acc hd ha
    refine Ev.succ ?_
    simp (disch := omega) only [spec_l08Back.l0, if_neg]
    exact Ev.pure (by simp [back])
  | succ d ih =>
    intro acc hd ha
    refine Ev.succ ?_
    have hx := hs.rd d (by omega)
    have e : ((d + 1 : Nat) : Int) - 1 = (d : Int) := by omega
    rw [e]
    simp (disch := omega) only [spec_l08Back.l0, if_pos, w64]
    refine Ev.to (ih (acc ++ [-rd l (d : Int)]) (by omega) (by simp; omega)) ?_
    rw [take_rd l d (by omega), back_snoc]
    simp
theorem spec_l08Back.ev (l : List Int) (hs : Small l) (hb : l.length ≤ 1099511627776) : Ev (fun k => spec_l08Back.f k l) (back l) := by
  have e : wrap64 ((l.length : Int) - 1) = (l.length : Int) - 1 := w64 (by omega) (by omega)
  simp only [spec_l08Back.f, e]
  exact Ev.to (spec_l08Back.ev0 l hs hb l.length [] (by omega) (by simpa using hb)) (by simp)

/-! ### spec_l08Act -/
-- use LibStrand
theorem spec_l08Act.ev2 (l w : List Int) (p : Int) (own : List Int) (ho : Small own) (hol : own.length ≤ 3) (R : List Int × Bool) (q : Nat) (hq : q ≤ 5000) : ∀ (d i : Nat) (acc : List Int), i + d = own.length → acc.length + d ≤ 100000 →
    (Ev (fun k => spec_l08Act.l1 k l w p (pushAll acc (own.drop i)) ((q + 1 : Nat) : Int)) R) → Ev (fun k => spec_l08Act.l2 k l w p acc (q : Int) own (i : Int)) R := by
  intro d
  induction d with
  | zero =>
    intro i acc hi ha hR
    refine Ev.succ ?_
    have c1 : ¬ (i : Int) < (own.length : Int) := by omega
    have w1 := Aside0.mk (w64 (x := (q : Int) + 1) (by omega) (by omega))
    simp only [spec_l08Act.l2, if_neg c1, w1.out]
    rw [drop_len _ _ (by omega)] at hR
    exact hR
  | succ d ih =>
    intro i acc hi ha hR
    refine Ev.succ ?_
    have hx := ho.rd i (by omega)
    have hw2 := Aside0.mk (w64 (x := (i : Int) + 1) (by omega) (by omega))
    have hwn := Aside0.mk (w64 (x := -(rd own (i : Int))) (by omega) (by omega))
    have ih' := fun acc h hR => ih (i + 1) acc (by omega) h hR
    have c1 : (i : Int) < (own.length : Int) := by omega
    have c2 : 0 ≤ (i : Int) := by omega
    have c3 : acc.length < 17592186044416 := by omega
    rw [drop_rd own i (by omega)] at hR
    simp only [pushAll, List.foldl_cons, push1] at ih' hR
    by_cases h0 : acc.length = 0
    · have e : acc = [] := List.eq_nil_of_length_eq_zero h0
      subst e
      have c4 : ¬ ((([] : List Int).length : Int) > 0) := by simp
      have c5 : ([] : List Int).length < 17592186044416 := by simp
      simp only [spec_l08Act.l2, if_pos c1, if_pos c2, if_neg c4, if_pos c5, hw2.out]
      exact ih' [rd own i] (by simp; omega) hR
    · have hwa := Aside0.mk (w64 (x := (acc.length : Int) - 1) (by omega) (by omega))
      have c4 : ((acc.length : Int) > 0) := by omega
      have c5 : 0 ≤ ((acc.length : Int) - 1) := by omega
      have c6 : ((acc.length : Int) - 1) < (acc.length : Int) := by omega
      have c7 : ((acc.length : Int) - 1) ≤ (acc.length : Int) := by omega
      simp only [spec_l08Act.l2, if_pos c1, if_pos c2, if_pos c3, if_pos c4, if_pos c5, if_pos c6, if_pos c7, hw2.out, hwa.out, hwn.out]
      rw [last_rd acc (by omega)] at hR
      by_cases hqq : rd acc ((acc.length : Int) - 1) = -rd own (i : Int)
      · simp only [if_pos hqq, Option.some.injEq] at hR ⊢
        rw [show (((acc.length : Int) - 1).toNat) = acc.length - 1 from by omega, take_last]
        exact ih' acc.dropLast (by simp; omega) hR
      · simp only [if_neg hqq, Option.some.injEq] at hR ⊢
        exact ih' (acc ++ [rd own i]) (by simp; omega) hR
theorem spec_l08Act.ev1 (l w : List Int) (p : Nat) (hp : p < l.length) (hl : ∀ y ∈ l, y ≠ 0 ∧ -7 ≤ y ∧ y ≤ 7) (hw : Gens w) (hwl : w.length ≤ 4000) (R : List Int × Bool) : ∀ (d i : Nat) (acc : List Int), i + d = w.length → Gens acc → acc.length ≤ 3 * i →
    (Ev (fun k => spec_l08Act.l1 k l w (p : Int) ((w.drop i).foldl (fun acc x => pushAll acc (imgS (rd l (p : Int)) x)) acc) (w.length : Int)) R) → Ev (fun k => spec_l08Act.l1 k l w (p : Int) acc (i : Int)) R := by
  intro d
  induction d with
  | zero =>
    intro i acc hi hg ha hR
    rw [drop_len _ _ (by omega)] at hR
    have : i = w.length := by omega
    subst this
    exact hR
  | succ d ih =>
    intro i acc hi hg ha hR
    have hy := hl _ (rd_mem l p hp)
    have hx := hw _ (rd_mem w i (by omega))
    have hk1 := absI_pos hx.1
    have hk8 := absI_bd hx.2
    have W := Aside0.mk (w64 (x := -rd w (i : Int)) (by omega) (by omega))
    have hmx : mx (rd w (i : Int)) (-rd w (i : Int)) = absI (rd w (i : Int)) := rfl
    have hgi := imgS_gens hy hx
    have hli := imgS_length (rd l (p : Int)) (rd w (i : Int))
    have hpl := pushAll_length acc (imgS (rd l (p : Int)) (rd w (i : Int)))
    have c1 : (i : Int) < (w.length : Int) := by omega
    have c2 : 0 ≤ (i : Int) := by omega
    have c3 : 0 ≤ (p : Int) := by omega
    have c4 : (p : Int) < (l.length : Int) := by omega
    rw [drop_rd w i (by omega), List.foldl_cons] at hR
    have next := ih (i + 1) (pushAll acc (imgS (rd l (p : Int)) (rd w (i : Int)))) (by omega) (fun y hy' => by
      rcases pushAll_mem hy' with h | h
      · exact hg y h
      · exact hgi y h) (by omega) hR
    have last : Ev (fun k => spec_l08Act.j2 k l w (p : Int) acc (i : Int) (imgS (rd l (p : Int)) (rd w (i : Int)))) R := by
      refine Ev.succ ?_
      simp only [spec_l08Act.j2]
      exact spec_l08Act.ev2 l w p _ hgi.small hli R i (by omega) (imgS (rd l (p : Int)) (rd w (i : Int))).length 0 acc (by omega) (by omega) (by rw [List.drop_zero]; exact next)
    refine Ev.succ ?_
    simp only [spec_l08Act.l1, if_pos c1, if_pos c2, if_pos c3, if_pos c4, W.out, hmx]
    refine Ev.bind (spec_l08Image.ev _ _ hy) ?_
    have hiw := imgW_gens hy (x := absI (rd w (i : Int))) ⟨by omega, by omega, by omega⟩
    have hil := imgW_length (rd l (p : Int)) (absI (rd w (i : Int)))
    by_cases h : rd w (i : Int) < 0
    · simp only [if_pos h]
      refine Ev.bind (spec_l08Back.ev _ hiw.small (by omega)) ?_
      rw [imgS, if_pos h] at last
      exact last
    · simp only [if_neg h]
      rw [imgS, if_neg h] at last
      exact last
theorem spec_l08Act.ev0 (l : List Int) (hb : l.length ≤ 200) (hl : ∀ y ∈ l, y ≠ 0 ∧ -7 ≤ y ∧ y ≤ 7) : ∀ (d p : Nat) (w : List Int), p + d = l.length → Gens w → w.length ≤ 4000 →
    Ev (fun k => spec_l08Act.l0 k l w (p : Int)) (match actAll (l.drop p) w with | some r => (r, true) | none => ([], false)) := by
  intro d
  induction d with
  | zero =>
    intro p w hp hw hwl
    refine Ev.succ ?_
    have c1 : ¬ (p : Int) < (l.length : Int) := by omega
    simp only [spec_l08Act.l0, if_neg c1]
    rw [drop_len _ _ (by omega)]
    exact Ev.now _
  | succ d ih =>
    intro p w hp hw hwl
    refine Ev.succ ?_
    have hy := hl _ (rd_mem l p (by omega))
    have c1 : (p : Int) < (l.length : Int) := by omega
    have w1 := Aside0.mk (w64 (x := (p : Int) + 1) (by omega) (by omega))
    simp only [spec_l08Act.l0, if_pos c1]
    refine spec_l08Act.ev1 l w p (by omega) hl hw hwl _ w.length 0 [] (by omega) (by simp [Gens]) (by simp) ?_
    rw [List.drop_zero]
    rw [show w.foldl (fun acc x => pushAll acc (imgS (rd l (p : Int)) x)) [] = act1 (rd l (p : Int)) w from rfl]
    have hg := act1_gens hy hw
    refine Ev.succ ?_
    have c2 : ¬ (w.length : Int) < (w.length : Int) := by omega
    rw [drop_rd l p (by omega)]
    simp only [spec_l08Act.l1, if_neg c2, w1.out, actAll]
    by_cases h : ((act1 (rd l (p : Int)) w).length : Int) > 4000
    · simp only [if_pos h]
      exact Ev.now _
    · simp only [if_neg h]
      exact ih (p + 1) _ (by omega) hg (by omega)
theorem spec_l08Act.ev (l w : List Int) (hb : l.length ≤ 200) (hl : ∀ y ∈ l, y ≠ 0 ∧ -7 ≤ y ∧ y ≤ 7) (hw : Gens w) (hwl : w.length ≤ 4000) :
    Ev (fun k => spec_l08Act.f k l w) (match actAll l w with | some r => (r, true) | none => ([], false)) := by
  have e := spec_l01Own.eq w (by omega)
  simp only [spec_l08Act.f, e, Option.bind_some]
  exact Ev.to (spec_l08Act.ev0 l hb hl l.length 0 w (by omega) hw hwl) (by rw [List.drop_zero])

/-! ### spec_l08Images -/
-- use LibStrand
theorem spec_l08Images.ev0 (l : List Int) (hb : l.length ≤ 200) (hl : ∀ y ∈ l, y ≠ 0 ∧ -7 ≤ y ∧ y ≤ 7) (n : Int) (hn : n ≤ 8) : ∀ (d : Nat) (i : Int) (acc : List (List Int)), i + d = n + 1 → 1 ≤ i → acc.length ≤ i →
    Ev (fun k => spec_l08Images.l0 k acc i n l) (match imagesGo l d i acc with | some r => (r, true) | none => ([], false)) := by
  intro d
  induction d with
  | zero =>
    intro i acc hi h1 ha
    refine Ev.succ ?_
    have c1 : ¬ i ≤ n := by omega
    simp only [spec_l08Images.l0, if_neg c1, imagesGo]
    exact Ev.now _
  | succ d ih =>
    intro i acc hi h1 ha
    refine Ev.succ ?_
    have c1 : i ≤ n := by omega
    have w1 := Aside0.mk (w64 (x := i + 1) (by omega) (by omega))
    have hg : Gens [i] := fun x hx => by rw [List.mem_singleton.1 hx]; omega
    simp only [spec_l08Images.l0, if_pos c1, imagesGo]
    refine Ev.bind (spec_l08Act.ev l [i] hb hl hg (by simp)) ?_
    cases e : actAll l [i] with
    | none => exact Ev.now _
    | some w =>
      have c2 : acc.length < 5864062014805 := by omega
      simp only [if_true, if_pos c2, w1.out]
      exact ih (i + 1) _ (by omega) (by omega) (by simp; omega)
theorem spec_l08Images.ev (n : Int) (l : List Int) (h : isBraidB n l = true) : Ev (fun k => spec_l08Images.f k n l) (match imagesGo l n.toNat 1 [] with | some r => (r, true) | none => ([], false)) := by
  have hn := (isBraidB_iff.1 h).1
  simp only [spec_l08Images.f]
  exact spec_l08Images.ev0 l (isBraidB_iff.1 h).2.1 (braid_letters h) n (by omega) n.toNat 1 [] (by omega) (by omega) (by simp)

/-! ### spec_l08Join -/
theorem spec_l08Join.ev0 (l : List Int) (hs : Small l) (hb : l.length ≤ 1099511627776) : ∀ (d i : Nat) (acc : List Int), i + d = l.length → acc.length + d ≤ 4398046511104 →
    Ev (fun k => spec_l08Join.l0 k l acc (i : Int)) (pushAll acc (l.drop i)) := by
  intro d
  induction d with
  | zero =>
    intro i acc hi ha
    refine Ev.succ ?_
    simp (disch := omega) only [spec_l08Join.l0, if_neg]
    exact Ev.pure (by rw [List.drop_of_length_le (by omega)]; rfl)
  | succ d ih =>
    intro i acc hi ha
    refine Ev.succ ?_
    have hx := hs.rd i (by omega)
    have hw2 : wrap64 ((i : Int) + 1) = ((i + 1 : Nat) : Int) := w64 (by omega) (by omega)
    have hwn : wrap64 (-(rd l (i : Int))) = -(rd l (i : Int)) := w64 (by omega) (by omega)
    have ih' := fun acc h => ih (i + 1) acc (by omega) h
    rw [drop_rd l i (by omega)]
    simp only [pushAll, List.foldl_cons, push1] at ih' ⊢
    by_cases h0 : acc.length = 0
    · have e : acc = [] := List.eq_nil_of_length_eq_zero h0
      subst e
      simp (disch := omega) only [spec_l08Join.l0, if_pos, if_neg, hw2, List.length_nil]
      exact ih' [rd l i] (by simp; omega)
    · have hwa : wrap64 ((acc.length : Int) - 1) = (acc.length : Int) - 1 := w64 (by omega) (by omega)
      simp (disch := omega) only [spec_l08Join.l0, if_pos, if_neg, hw2, hwa, hwn]
      rw [last_rd acc (by omega)]
      by_cases hq : rd acc ((acc.length : Int) - 1) = -rd l (i : Int)
      · simp only [if_pos hq, Option.some.injEq]
        rw [show (((acc.length : Int) - 1).toNat) = acc.length - 1 from by omega, take_last]
        exact ih' acc.dropLast (by simp; omega)
      · simp only [if_neg hq, Option.some.injEq]
        exact ih' (acc ++ [rd l i]) (by simp; omega)
theorem spec_l08Join.ev (a l : List Int) (hs : Small l) (ha : a.length ≤ 1099511627776) (hb : l.length ≤ 1099511627776) : Ev (fun k => spec_l08Join.f k a l) (pushAll a l) := by
  simp (disch := omega) only [spec_l08Join.f, spec_l01Own.eq, Option.bind_some]
  exact Ev.to (spec_l08Join.ev0 l hs hb l.length 0 a (by omega) (by omega)) (by simp)

/-! ### spec_RelationsOf -/
-- use LibRel
theorem spec_RelationsOf.ev0 (x : List (List Int)) (hb : x.length ≤ 8) (hx : ∀ q ∈ x, q.length ≤ 4000) (hs : ∀ q ∈ x, Small q) : ∀ (d i : Nat) (acc : List (List Int)), i + d = x.length → acc.length = i →
    Ev (fun k => spec_RelationsOf.l0 k x acc (i : Int)) (relR (relGo i (x.drop i) acc)) := by
  intro d
  induction d with
  | zero =>
    intro i acc hi ha
    refine Ev.succ ?_
    have c1 : ¬ (i : Int) < (x.length : Int) := by omega
    simp only [spec_RelationsOf.l0, if_neg c1]
    exact Ev.pure (by rw [List.drop_of_length_le (by omega)]; rfl)
  | succ d ih =>
    intro i acc hi ha
    refine Ev.succ ?_
    have c1 : (i : Int) < (x.length : Int) := by omega
    have c2 : 0 ≤ (i : Int) := by omega
    have w1 := Aside0.mk (w64 (x := (i : Int) + 1) (by omega) (by omega))
    have w2 := Aside0.mk (w64 (x := -((i : Int) + 1)) (by omega) (by omega))
    have c3 : acc.length < 5864062014805 := by omega
    have hxi := hx _ (rdl_mem x i (by omega))
    have hsi := hs _ (rdl_mem x i (by omega))
    rw [drop_rdl x i (by omega), relGo]
    simp only [spec_RelationsOf.l0, rdL1_eq, if_pos c1, if_pos c2, w1.out, w2.out]
    refine Ev.bind (spec_l08Join.ev [-((i : Int) + 1)] (rdl x (i : Int)) hsi (by simp) (by omega)) ?_
    by_cases h : ((pushAll [-((i : Int) + 1)] (rdl x (i : Int))).length : Int) > 4000
    · simp only [if_pos h]
      exact Ev.now _
    · simp only [if_neg h, if_pos c3]
      exact ih (i + 1) _ (by omega) (by simp; omega)
theorem spec_RelationsOf.ev (n : Int) (l : List Int) (hf : Fits l) : Ev (fun k => spec_RelationsOf.f k n l) (relM n l) := by
  simp only [spec_RelationsOf.f]
  refine Ev.bind (spec_l01Is.ev n l hf) ?_
  unfold relM
  by_cases h : isBraidB n l = true
  · simp only [if_pos h]
    refine Ev.bind (spec_l08Images.ev n l h) ?_
    cases e : imagesGo l n.toNat 1 [] with
    | none => exact Ev.now _
    | some x =>
      have b := imagesGo_ok (isBraidB_iff.1 h).1 e
      have hn := (isBraidB_iff.1 h).1
      simp only [if_true, Option.bind_some]
      exact spec_RelationsOf.ev0 x (by omega) b.2 (images_small h e) x.length 0 [] (by omega) rfl
  · simp only [if_neg h]
    exact Ev.now _

/-! ### impl_within -/
theorem impl_within.eq (a lo hi : Int) : impl_within.f a lo hi = some (inB a lo hi) := by
  unfold impl_within.f inB
  by_cases h : lo ≤ a <;> simp [h]

/-! ### impl_isCount -/
theorem impl_isCount.eq (a : Int) : impl_isCount.f a = some (inB a 1 8) := by simp only [impl_isCount.f, impl_within.eq, Option.bind_some]

/-! ### impl_isLetter -/
theorem impl_isLetter.eq (x n : Int) (h1 : 1 ≤ n) (h8 : n ≤ 8) : impl_isLetter.f x n = some (letterB n x) := by
  simp (disch := omega) only [impl_isLetter.f, impl_within.eq, Option.bind_some, w64]
  unfold letterB
  split <;> simp_all

/-! ### impl_IsBraid -/
theorem impl_IsBraid.ev0 (n : Int) (l : List Int) (h1 : 1 ≤ n) (h8 : n ≤ 8) (hb : l.length ≤ 200) : ∀ (d i : Nat), i + d = l.length →
    Ev (fun k => impl_IsBraid.l0 k l (l.length : Int) (i : Int) n l) ((l.drop i).all (letterB n)) := by
  intro d
  induction d with
  | zero =>
    intro i hi
    refine Ev.succ ?_
    simp (disch := omega) only [impl_IsBraid.l0, if_neg]
    exact Ev.pure (by rw [List.drop_of_length_le (by omega)]; rfl)
  | succ d ih =>
    intro i hi
    refine Ev.succ ?_
    simp (disch := omega) only [impl_IsBraid.l0, if_pos, w64, impl_isLetter.eq, Option.bind_some]
    rw [drop_rd l i (by omega), List.all_cons]
    cases h : letterB n (rd l i) with
    | true => simp only [if_true, Bool.true_and]; exact ih (i + 1) (by omega)
    | false => exact Ev.pure (by simp)
theorem impl_IsBraid.ev (n : Int) (l : List Int) : Ev (fun k => impl_IsBraid.f k n l) (isBraidB n l) := by
  simp only [impl_IsBraid.f, impl_isCount.eq, Option.bind_some]
  unfold isBraidB
  cases hn : inB n 1 8 with
  | false =>
    refine Ev.succ ?_
    simp [impl_IsBraid.j0]
    exact Ev.now _
  | true =>
    obtain ⟨h1, h8⟩ := inB_iff.1 hn
    refine Ev.succ ?_
    simp only [if_true, impl_IsBraid.j0, Bool.true_and]
    by_cases hl : l.length ≤ 200
    · have : ¬ ((l.length : Int) > 200) := by omega
      simp only [this, decide_false, Bool.false_eq_true, if_false, hl, decide_true, Bool.true_and]
      exact Ev.to (impl_IsBraid.ev0 n l h1 h8 hl l.length 0 (by omega)) (by simp)
    · have : ((l.length : Int) > 200) := by omega
      simp only [this, decide_true, if_true, hl, decide_false, Bool.false_and]
      exact Ev.now _

/-! ### impl_freed -/
theorem impl_freed.ev0 (l : List Int) (hs : Small l) (hb : l.length ≤ 1099511627776) : ∀ (d i : Nat) (acc : List Int), i + d = l.length → acc.length + d ≤ 4398046511104 →
    Ev (fun k => impl_freed.l0 k acc l (l.length : Int) (i : Int)) (pushAll acc (l.drop i)) := by
  intro d
  induction d with
  | zero =>
    intro i acc hi ha
    refine Ev.succ ?_
    simp (disch := omega) only [impl_freed.l0, if_neg]
    exact Ev.pure (by rw [List.drop_of_length_le (by omega)]; rfl)
  | succ d ih =>
    intro i acc hi ha
    refine Ev.succ ?_
    have hx := hs.rd i (by omega)
    have hw2 : wrap64 ((i : Int) + 1) = ((i + 1 : Nat) : Int) := w64 (by omega) (by omega)
    have hwn : wrap64 (-(rd l (i : Int))) = -(rd l (i : Int)) := w64 (by omega) (by omega)
    have ih' := fun acc h => ih (i + 1) acc (by omega) h
    rw [drop_rd l i (by omega)]
    simp only [pushAll, List.foldl_cons, push1] at ih' ⊢
    by_cases h0 : acc.length = 0
    · have e : acc = [] := List.eq_nil_of_length_eq_zero h0
      subst e
      simp (disch := omega) only [impl_freed.l0, if_pos, if_neg, hw2, List.length_nil]
      exact ih' [rd l i] (by simp; omega)
    · have hwa : wrap64 ((acc.length : Int) - 1) = (acc.length : Int) - 1 := w64 (by omega) (by omega)
      simp (disch := omega) only [impl_freed.l0, if_pos, if_neg, hw2, hwa, hwn]
      rw [last_rd acc (by omega)]
      by_cases hq : rd acc ((acc.length : Int) - 1) = -rd l (i : Int)
      · simp only [if_pos hq, Option.some.injEq]
        rw [show (((acc.length : Int) - 1).toNat) = acc.length - 1 from by omega, take_last]
        exact ih' acc.dropLast (by simp; omega)
      · simp only [if_neg hq, Option.some.injEq]
        exact ih' (acc ++ [rd l i]) (by simp; omega)
theorem impl_freed.ev (a l : List Int) (hs : Small l) (ha : a.length ≤ 1099511627776) (hb : l.length ≤ 1099511627776) : Ev (fun k => impl_freed.f k a l) (pushAll a l) := by
  simp only [impl_freed.f]
  exact Ev.to (impl_freed.ev0 l hs hb l.length 0 a (by omega) (by omega)) (by simp)

/-! ### impl_copyOf -/
theorem impl_copyOf.eq (l : List Int) (h : l.length ≤ 1099511627776) : impl_copyOf.f l = some l := by
  simp only [impl_copyOf.f, Option.bind_some, List.nil_append, List.length_nil]
  rw [if_pos (by omega)]

/-! ### impl_size -/
theorem impl_size.eq (x : Int) (h : -4611686018427387904 ≤ x ∧ x ≤ 4611686018427387904) : impl_size.f x = some (absI x) := by
  have e : wrap64 (-x) = -x := w64 (by omega) (by omega)
  simp only [impl_size.f, e, absI]

/-! ### impl_imageBy -/
-- use LibStrand
theorem impl_imageBy.ev (y x : Int) (hy : y ≠ 0 ∧ -7 ≤ y ∧ y ≤ 7) : Ev (fun k => impl_imageBy.f k y x) (imgW y x) := by
  have hk1 := absI_pos hy.1
  have hk7 := absI_bd hy.2
  have wp := Aside0.mk (w64 (x := absI y + 1) (by omega) (by omega))
  have wn := Aside0.mk (w64 (x := -absI y) (by omega) (by omega))
  have wn1 := Aside0.mk (w64 (x := -(absI y + 1)) (by omega) (by omega))
  unfold imgW
  have hsz := impl_size.eq y (by omega)
  simp only [impl_imageBy.f, hsz, Option.bind_some]
  by_cases h : y > 0
  · have h' : ¬ y < 0 := by omega
    simp only [if_pos h]
    refine Ev.succ ?_
    simp only [impl_imageBy.j0, wp.out, wn.out, if_pos h]
    by_cases e1 : x = absI y
    · simp only [e1, beq_self_eq_true, if_true, h, true_and]
      exact Ev.now _
    · have b1 : (x == absI y) = false := by simp [e1]
      simp only [b1, Bool.false_eq_true, if_false]
      refine Ev.succ ?_
      simp only [impl_imageBy.j1, if_neg h']
      by_cases e2 : x = absI y + 1
      · have b2 : (x == absI y + 1) = true := by simp [e2]
        simp only [b2, if_true]
        exact Ev.pure (by simp [e2, h] <;> omega)
      · have b2 : (x == absI y + 1) = false := by simp [e2]
        simp only [b2, Bool.false_eq_true, if_false]
        refine Ev.succ ?_
        simp only [impl_imageBy.j2, Bool.false_eq_true, if_false, if_neg h']
        exact Ev.pure (by simp [e1, e2])
  · have h' : y < 0 := by omega
    simp only [if_neg h]
    refine Ev.succ ?_
    simp only [impl_imageBy.j0, Bool.false_eq_true, if_false, if_neg h]
    refine Ev.succ ?_
    simp only [impl_imageBy.j1, Bool.false_eq_true, if_false, if_pos h']
    refine Ev.succ ?_
    simp only [impl_imageBy.j2, wp.out, wn1.out, if_pos h']
    by_cases e1 : x = absI y
    · have b1 : (x == absI y) = true := by simp [e1]
      simp only [b1, if_true]
      exact Ev.pure (by simp [e1, h, h'])
    · have b1 : (x == absI y) = false := by simp [e1]
      simp only [b1, Bool.false_eq_true, if_false]
      by_cases e2 : x = absI y + 1
      · simp only [if_pos e2]
        exact Ev.pure (by simp [e2, h, h'] <;> omega)
      · simp only [if_neg e2]
        exact Ev.pure (by simp [e1, e2])

/-! ### impl_backward -/
theorem impl_backward.ev0 (l : List Int) (hs : Small l) (hb : l.length ≤ 1099511627776) : ∀ (d : Nat) (acc : List Int), d ≤ l.length → acc.length + d ≤ 1099511627776 →
    Ev (fun k => impl_backward.l0 k l acc ((d : Int) - 1)) (acc ++ back (l.take d)) := by
  intro d
  induction d with
  | zero =>
    intro acc hd ha
    refine Ev.succ ?_
    simp (disch := omega) only [impl_backward.l0, if_neg]
    exact Ev.pure (by simp [back])
  | succ d ih =>
    intro acc hd ha
    refine Ev.succ ?_
    have hx := hs.rd d (by omega)
    have e : ((d + 1 : Nat) : Int) - 1 = (d : Int) := by omega
    rw [e]
    simp (disch := omega) only [impl_backward.l0, if_pos, w64]
    refine Ev.to (ih (acc ++ [-rd l (d : Int)]) (by omega) (by simp; omega)) ?_
    rw [take_rd l d (by omega), back_snoc]
    simp
theorem impl_backward.ev (l : List Int) (hs : Small l) (hb : l.length ≤ 1099511627776) : Ev (fun k => impl_backward.f k l) (back l) := by
  have e : wrap64 ((l.length : Int) - 1) = (l.length : Int) - 1 := w64 (by omega) (by omega)
  simp only [impl_backward.f, e]
  exact Ev.to (impl_backward.ev0 l hs hb l.length [] (by omega) (by simpa using hb)) (by simp)

/-! ### impl_act -/
-- use LibStrand
theorem impl_act.ev1 (l w : List Int) (p : Nat) (hp : p < l.length) (y : Int) (hy : y ≠ 0 ∧ -7 ≤ y ∧ y ≤ 7) (hw : Gens w) (hwl : w.length ≤ 4000) (R : List Int × Int) : ∀ (d i : Nat) (acc : List Int), i + d = w.length → Gens acc → acc.length ≤ 3 * i →
    (Ev (fun k => impl_act.l1 k y ((w.drop i).foldl (fun acc x => pushAll acc (imgS y x)) acc) l (l.length : Int) (p : Int) w (w.length : Int) (w.length : Int)) R) → Ev (fun k => impl_act.l1 k y acc l (l.length : Int) (p : Int) w (w.length : Int) (i : Int)) R := by
  intro d
  induction d with
  | zero =>
    intro i acc hi hg ha hR
    rw [drop_len _ _ (by omega)] at hR
    have : i = w.length := by omega
    subst this
    exact hR
  | succ d ih =>
    intro i acc hi hg ha hR
    have hx := hw _ (rd_mem w i (by omega))
    have hk1 := absI_pos hx.1
    have hk8 := absI_bd hx.2
    have W := Aside0.mk (w64 (x := -rd w (i : Int)) (by omega) (by omega))
    have w1 := Aside0.mk (w64 (x := (i : Int) + 1) (by omega) (by omega))
    have hgi := imgS_gens hy hx
    have hli := imgS_length y (rd w (i : Int))
    have hpl := pushAll_length acc (imgS y (rd w (i : Int)))
    have c1 : (i : Int) < (w.length : Int) := by omega
    have c2 : 0 ≤ (i : Int) := by omega
    rw [drop_rd w i (by omega), List.foldl_cons] at hR
    have next := ih (i + 1) (pushAll acc (imgS y (rd w (i : Int)))) (by omega) (fun z hz => by
      rcases pushAll_mem hz with h | h
      · exact hg z h
      · exact hgi z h) (by omega) hR
    refine Ev.succ ?_
    simp only [impl_act.l1, if_pos c1, if_pos c2, W.out, w1.out]
    by_cases h : rd w (i : Int) > 0
    · have ea : absI (rd w (i : Int)) = rd w (i : Int) := by rw [absI_eq, if_pos (by omega)]
      have es : imgS y (rd w (i : Int)) = imgW y (rd w (i : Int)) := by rw [imgS, if_neg (by omega), ea]
      rw [es] at next hgi hli
      simp only [if_pos h]
      refine Ev.bind (impl_imageBy.ev _ _ hy) ?_
      exact Ev.bind (impl_freed.ev acc _ hgi.small (by omega) (by omega)) next
    · have ea : absI (rd w (i : Int)) = -rd w (i : Int) := by rw [absI_eq, if_neg (by omega)]
      have es : imgS y (rd w (i : Int)) = back (imgW y (-rd w (i : Int))) := by rw [imgS, if_pos (by omega), ea]
      have hiw := imgW_gens hy (x := -rd w (i : Int)) ⟨by omega, by omega, by omega⟩
      have hil := imgW_length y (-rd w (i : Int))
      rw [es] at next hgi hli
      simp only [if_neg h]
      refine Ev.bind (impl_imageBy.ev _ _ hy) ?_
      refine Ev.bind (impl_backward.ev _ hiw.small (by omega)) ?_
      exact Ev.bind (impl_freed.ev acc _ hgi.small (by omega) (by omega)) next
theorem impl_act.ev0 (l : List Int) (hb : l.length ≤ 200) (hl : ∀ y ∈ l, y ≠ 0 ∧ -7 ≤ y ∧ y ≤ 7) : ∀ (d p : Nat) (w : List Int), p + d = l.length → Gens w → w.length ≤ 4000 →
    Ev (fun k => impl_act.l0 k w l (l.length : Int) (p : Int)) (match actAll (l.drop p) w with | some r => (r, 0) | none => ([], 3)) := by
  intro d
  induction d with
  | zero =>
    intro p w hp hw hwl
    refine Ev.succ ?_
    have c1 : ¬ (p : Int) < (l.length : Int) := by omega
    simp only [impl_act.l0, if_neg c1]
    rw [drop_len _ _ (by omega)]
    exact Ev.now _
  | succ d ih =>
    intro p w hp hw hwl
    refine Ev.succ ?_
    have hy := hl _ (rd_mem l p (by omega))
    have c1 : (p : Int) < (l.length : Int) := by omega
    have c0 : 0 ≤ (p : Int) := by omega
    have w1 := Aside0.mk (w64 (x := (p : Int) + 1) (by omega) (by omega))
    simp only [impl_act.l0, if_pos c1, if_pos c0]
    refine impl_act.ev1 l w p (by omega) _ hy hw hwl _ w.length 0 [] (by omega) (by simp [Gens]) (by simp) ?_
    rw [List.drop_zero]
    rw [show w.foldl (fun acc x => pushAll acc (imgS (rd l (p : Int)) x)) [] = act1 (rd l (p : Int)) w from rfl]
    have hg := act1_gens hy hw
    refine Ev.succ ?_
    have c2 : ¬ (w.length : Int) < (w.length : Int) := by omega
    rw [drop_rd l p (by omega)]
    simp only [impl_act.l1, if_neg c2, w1.out, actAll]
    by_cases h : ((act1 (rd l (p : Int)) w).length : Int) > 4000
    · simp only [if_pos h]
      exact Ev.now _
    · simp only [if_neg h]
      exact ih (p + 1) _ (by omega) hg (by omega)
theorem impl_act.ev (l w : List Int) (hb : l.length ≤ 200) (hl : ∀ y ∈ l, y ≠ 0 ∧ -7 ≤ y ∧ y ≤ 7) (hw : Gens w) (hwl : w.length ≤ 4000) :
    Ev (fun k => impl_act.f k l w) (match actAll l w with | some r => (r, 0) | none => ([], 3)) := by
  have e := impl_copyOf.eq w (by omega)
  simp only [impl_act.f, e, Option.bind_some]
  exact Ev.to (impl_act.ev0 l hb hl l.length 0 w (by omega) hw hwl) (by rw [List.drop_zero])

/-! ### impl_ImagesOf -/
-- use LibStrand
theorem impl_ImagesOf.ev0 (l : List Int) (hb : l.length ≤ 200) (hl : ∀ y ∈ l, y ≠ 0 ∧ -7 ≤ y ∧ y ≤ 7) (n : Int) (hn : n ≤ 8) : ∀ (d : Nat) (i : Int) (acc : List (List Int)), i + d = n + 1 → 1 ≤ i → acc.length ≤ i →
    Ev (fun k => impl_ImagesOf.l0 k acc i n l) (match imagesGo l d i acc with | some r => (r, 0) | none => ([], 3)) := by
  intro d
  induction d with
  | zero =>
    intro i acc hi h1 ha
    refine Ev.succ ?_
    have c1 : ¬ i ≤ n := by omega
    simp only [impl_ImagesOf.l0, if_neg c1, imagesGo]
    exact Ev.now _
  | succ d ih =>
    intro i acc hi h1 ha
    refine Ev.succ ?_
    have c1 : i ≤ n := by omega
    have w1 := Aside0.mk (w64 (x := i + 1) (by omega) (by omega))
    have hg : Gens [i] := fun x hx => by rw [List.mem_singleton.1 hx]; omega
    simp only [impl_ImagesOf.l0, if_pos c1, imagesGo]
    refine Ev.bind (impl_act.ev l [i] hb hl hg (by simp)) ?_
    cases e : actAll l [i] with
    | none => exact Ev.now _
    | some w =>
      have c2 : acc.length < 5864062014805 := by omega
      simp only [if_true, if_pos c2, w1.out]
      exact ih (i + 1) _ (by omega) (by omega) (by simp; omega)
theorem impl_ImagesOf.ev (n : Int) (l : List Int) : Ev (fun k => impl_ImagesOf.f k n l) (imagesM n l) := by
  simp only [impl_ImagesOf.f]
  refine Ev.bind (impl_IsBraid.ev n l) ?_
  unfold imagesM
  by_cases h : isBraidB n l = true
  · have hn := (isBraidB_iff.1 h).1
    simp only [if_pos h]
    exact impl_ImagesOf.ev0 l (isBraidB_iff.1 h).2.1 (braid_letters h) n (by omega) n.toNat 1 [] (by omega) (by omega) (by simp)
  · simp only [if_neg h]
    exact Ev.now _

/-! ### impl_RelationsOf -/
-- use LibRel
theorem impl_RelationsOf.ev0 : ∀ (x : List (List Int)) (i : Nat) (acc : List (List Int)), i + x.length ≤ 8 → (∀ q ∈ x, q.length ≤ 4000) → (∀ q ∈ x, Small q) →
    Ev (fun k => impl_RelationsOf.l0 k acc x (i : Int)) (relR (relGo i x acc)) := by
  intro x
  induction x with
  | nil =>
    intro i acc _ _ _
    refine Ev.succ ?_
    simp only [impl_RelationsOf.l0]
    exact Ev.now _
  | cons q x ih =>
    intro i acc hi hx hs
    simp only [List.length_cons] at hi
    refine Ev.succ ?_
    have w1 := Aside0.mk (w64 (x := (i : Int) + 1) (by omega) (by omega))
    have w2 := Aside0.mk (w64 (x := -((i : Int) + 1)) (by omega) (by omega))
    have hxi := hx q (by simp)
    rw [relGo]
    simp only [impl_RelationsOf.l0, w1.out, w2.out]
    refine Ev.bind (impl_freed.ev [-((i : Int) + 1)] q (hs q (by simp)) (by simp) (by omega)) ?_
    by_cases h : ((pushAll [-((i : Int) + 1)] q).length : Int) > 4000
    · simp only [if_pos h]
      exact Ev.now _
    · simp only [if_neg h]
      exact ih (i + 1) _ (by omega) (fun p hp => hx p (by simp [hp])) (fun p hp => hs p (by simp [hp]))
theorem impl_RelationsOf.ev (n : Int) (l : List Int) : Ev (fun k => impl_RelationsOf.f k n l) (relM n l) := by
  simp only [impl_RelationsOf.f]
  refine Ev.bind (impl_ImagesOf.ev n l) ?_
  unfold relM imagesM
  by_cases h : isBraidB n l = true
  · simp only [if_pos h]
    cases e : imagesGo l n.toNat 1 [] with
    | none => exact Ev.now _
    | some x =>
      have b := imagesGo_ok (isBraidB_iff.1 h).1 e
      have hn := (isBraidB_iff.1 h).1
      simp only [if_true, Option.bind_some]
      exact impl_RelationsOf.ev0 x 0 [] (by omega) b.2 (images_small h e)
  · simp only [if_neg h]
    exact Ev.now _

-- says For every braid-shaped input the program's RelationsOf returns what the reference's returns, keeps its argument and shares no memory; no conditions.
-- row braid
-- hand laws_markInt64SS
-- use LibRel


end Go.Proofs.Ytppkpeephommhaa.PureFnExactRelationsOf
