/- For all braids and numbers the program's KrammerTrace returns what the reference's returns and keeps its argument; no conditions. -/
import Derived.Test.YtifmdgffimckgaaMFnExactKrammerTracex11
import Derived.Test.YtifmdgffimckgaaLib
import Derived.Test.YtifmdgffimckgaaLibChar
import Derived.Test.YtifmdgffimckgaaLibKi
import Derived.Test.YtifmdgffimckgaaLibMat
set_option linter.unusedVariables false
set_option linter.unusedSimpArgs false
set_option maxRecDepth 10000
set_option maxHeartbeats 4000000
namespace Go.Proofs.Ytifmdgffimckgaa.PureFnExactKrammerTrace
open Go.RowKit Go.Proofs.Ytifmdgffimckgaa.MFnExactKrammerTrace Go.Proofs.YtifmdgffimckgaaW.PrintWords Go.Proofs.Ytifmdgffimckgaa.Lib

theorem rdL1_eq (xs : List (List Int)) (i : Int) : rd_L1 xs i = rdl xs i := by
  have h : rd_L1 xs i = xs.getD i.toNat [] := by unfold rd_L1; rfl
  rw [h, rdl]

/-! ### laws_szInt64S -/
theorem laws_szInt64S.eq (l : List Int) (x : Int) (h0 : 0 ≤ x) (h1 : x ≤ 1048576) (hl : l.length ≤ maxLen) : laws_szInt64S.f l x = some (if x - l.length < 0 then -1 else x - l.length) := by
  unfold maxLen at hl
  simp (disch := omega) only [laws_szInt64S.f, w64]
  split <;> rfl

/-! ### laws_szBraid -/
theorem laws_szBraid.eq (n : Int) (l : List Int) (x : Int) (h0 : 0 ≤ x) (h1 : x ≤ 1048576) (hl : l.length ≤ maxLen) : laws_szBraid.f n l x = some (if x - l.length < 0 then -1 else x - l.length) := by
  simp (disch := assumption) only [laws_szBraid.f, laws_szInt64S.eq, Option.bind_some]
  by_cases h : x - l.length < 0
  · simp [h]
  · simp [h]

/-! ### laws_toInt64S -/
theorem laws_toInt64S.ev0 (l : List Int) (hb : l.length ≤ 17592186044416) : ∀ (d i : Nat) (acc : List Int), i + d = l.length → acc.length = l.length →
    Ev (fun k => laws_toInt64S.l0 k l acc (i : Int)) (acc.take i ++ l.drop i) := by
  intro d
  induction d with
  | zero =>
    intro i acc hi ha
    refine Ev.succ ?_
    simp (disch := omega) only [laws_toInt64S.l0, if_neg]
    exact Ev.pure (by rw [List.take_of_length_le (by omega), List.drop_of_length_le (by omega), List.append_nil])
  | succ d ih =>
    intro i acc hi ha
    refine Ev.succ ?_
    simp (disch := omega) only [laws_toInt64S.l0, if_pos, w64]
    refine Ev.to (ih (i + 1) (acc.set i (rd l i)) (by omega) (by simpa using ha)) ?_
    rw [take_set_succ _ _ _ (by omega), drop_rd l i (by omega), List.append_assoc]; rfl
theorem laws_toInt64S.ev (l : List Int) (hb : l.length ≤ 17592186044416) : Ev (fun k => laws_toInt64S.f k l) l := by
  simp (disch := omega) only [laws_toInt64S.f, if_pos]
  refine Ev.to (laws_toInt64S.ev0 l hb l.length 0 (List.replicate l.length 0) (by omega) (by simp)) (by simp)

/-! ### laws_toBraid -/
theorem laws_toBraid.ev (n : Int) (l : List Int) (hb : l.length ≤ 17592186044416) : Ev (fun k => laws_toBraid.f k n l) (n, l) := by
  simp only [laws_toBraid.f]
  exact Ev.bind (laws_toInt64S.ev l hb) (Ev.now _)

/-! ### laws_eqInt64S -/
theorem laws_eqInt64S.ev0 (l m : List Int) (hb : l.length ≤ 4611686018427387904) (hlm : l.length = m.length) : ∀ (d i : Nat), i + d = l.length →
    Ev (fun k => laws_eqInt64S.l0 k l m (i : Int)) (decide (l.drop i = m.drop i)) := by
  intro d
  induction d with
  | zero =>
    intro i hi
    refine Ev.succ ?_
    simp (disch := omega) only [laws_eqInt64S.l0, if_neg]
    exact Ev.pure (by rw [List.drop_of_length_le (by omega), List.drop_of_length_le (by omega)]; simp)
  | succ d ih =>
    intro i hi
    refine Ev.succ ?_
    simp (disch := omega) only [laws_eqInt64S.l0, if_pos, w64]
    rw [drop_rd l i (by omega), drop_rd m i (by omega)]
    by_cases h : rd l i = rd m i
    · simp only [if_pos h]
      refine Ev.to (ih (i + 1) (by omega)) (by simp [h])
    · simp only [if_neg h]
      exact Ev.pure (by simp [h])
theorem laws_eqInt64S.ev (l m : List Int) (hb : l.length ≤ 4611686018427387904) : Ev (fun k => laws_eqInt64S.f k l m) (decide (l = m)) := by
  by_cases h : l.length = m.length
  · simp (disch := omega) only [laws_eqInt64S.f, if_pos]
    exact Ev.to (laws_eqInt64S.ev0 l m hb h l.length 0 (by omega)) (by simp)
  · simp (disch := omega) only [laws_eqInt64S.f, if_neg]
    exact Ev.pure (by simp; intro e; exact h (by rw [e]))

/-! ### laws_eqBraid -/
theorem laws_eqBraid.ev (n m : Int) (l s : List Int) (hb : l.length ≤ 4611686018427387904) : Ev (fun k => laws_eqBraid.f k n l m s) (decide (n = m) && decide (l = s)) := by
  simp only [laws_eqBraid.f]
  by_cases h : n = m
  · simp only [if_pos h]
    refine Ev.bind (laws_eqInt64S.ev l s hb) ?_
    by_cases h' : l = s <;> simp [h, h'] <;> exact Ev.now _
  · simp only [if_neg h]
    exact Ev.pure (by simp [h])

/-! ### spec_l01In -/
theorem spec_l01In.eq (a lo hi : Int) : spec_l01In.f a lo hi = some (inB a lo hi) := by
  unfold spec_l01In.f inB
  by_cases h : lo ≤ a <;> simp [h]

/-! ### spec_l01Is -/
theorem spec_l01Is.letter (n x : Int) (h1 : 1 ≤ n) (h8 : n ≤ 8) (hx : -9223372036854775808 ≤ x ∧ x ≤ 9223372036854775807) : (inB x 1 (n - 1) || inB (wrap64 (-x)) 1 (n - 1)) = letterB n x := by
  unfold inB letterB inB wrap64
  rw [Bool.eq_iff_iff]; simp; omega
theorem spec_l01Is.ev0 (n : Int) (l : List Int) (h1 : 1 ≤ n) (h8 : n ≤ 8) (hb : l.length ≤ 200) (hf : Fits l) : ∀ (d i : Nat), i + d = l.length →
    Ev (fun k => spec_l01Is.l0 k (i : Int) n l) ((l.drop i).all (letterB n)) := by
  intro d
  induction d with
  | zero =>
    intro i hi
    refine Ev.succ ?_
    simp (disch := omega) only [spec_l01Is.l0, if_neg]
    exact Ev.pure (by rw [List.drop_of_length_le (by omega)]; rfl)
  | succ d ih =>
    intro i hi
    refine Ev.succ ?_
    have hx := hf (rd l i) (rd_mem l i (by omega))
    have hl := spec_l01Is.letter n (rd l i) h1 h8 hx
    have hw : wrap64 (n - 1) = n - 1 := w64 (by omega) (by omega)
    have hw2 : wrap64 ((i : Int) + 1) = ((i + 1 : Nat) : Int) := w64 (by omega) (by omega)
    simp (disch := omega) only [spec_l01Is.l0, if_pos, hw, hw2, spec_l01In.eq, Option.bind_some]
    rw [drop_rd l i (by omega), List.all_cons, ← hl]
    cases h : inB (rd l i) 1 (n - 1) with
    | true => simp only [if_true, Bool.true_or, Bool.true_and]; exact ih (i + 1) (by omega)
    | false =>
      cases h' : inB (wrap64 (-(rd l i))) 1 (n - 1) with
      | true => simp only [if_true, Bool.false_or, Bool.true_and, Bool.false_eq_true, if_false]; exact ih (i + 1) (by omega)
      | false => exact Ev.pure (by simp)
theorem spec_l01Is.ev (n : Int) (l : List Int) (hf : Fits l) : Ev (fun k => spec_l01Is.f k n l) (isBraidB n l) := by
  simp only [spec_l01Is.f, spec_l01In.eq, Option.bind_some]
  unfold isBraidB
  cases hn : inB n 1 8 with
  | false =>
    refine Ev.succ ?_
    simp [spec_l01Is.j0]
    exact Ev.now _
  | true =>
    obtain ⟨h1, h8⟩ := inB_iff.1 hn
    refine Ev.succ ?_
    simp only [if_true, spec_l01Is.j0, Bool.true_and]
    by_cases hl : l.length ≤ 200
    · have : ¬ ((l.length : Int) > 200) := by omega
      simp only [this, decide_false, Bool.false_eq_true, if_false, hl, decide_true, Bool.true_and]
      exact Ev.to (spec_l01Is.ev0 n l h1 h8 hl hf l.length 0 (by omega)) (by simp)
    · have : ((l.length : Int) > 200) := by omega
      simp only [this, decide_true, if_true, hl, decide_false, Bool.false_and]
      exact Ev.now _

/-! ### spec_l09Trace -/
theorem spec_l09Trace.ev0 (l : List (List Int)) (hb : l.length ≤ 28) (hq : ∀ q ∈ l, q.length = l.length ∧ ∀ x ∈ q, 0 ≤ x ∧ x ≤ 10006) : ∀ (d i : Nat) (acc : Int), i + d = l.length → 0 ≤ acc → acc ≤ 10006 * i →
    Ev (fun k => spec_l09Trace.l0 k l acc (i : Int)) ((acc + diag (l.drop i) i).tmod 10007) := by
  intro d
  induction d with
  | zero =>
    intro i acc hi h0 h1
    refine Ev.succ ?_
    simp (disch := omega) only [spec_l09Trace.l0, if_neg]
    exact Ev.pure (by rw [List.drop_of_length_le (by omega)]; simp [diag])
  | succ d ih =>
    intro i acc hi h0 h1
    refine Ev.succ ?_
    obtain ⟨hl, hx⟩ := hq _ (rdl_mem l i (by omega))
    have hr := rd_range hx i
    simp (disch := omega) only [spec_l09Trace.l0, if_pos, rdL1_eq, w64]
    refine Ev.to (ih (i + 1) (acc + rd (rdl l (i : Int)) (i : Int)) (by omega) (by omega) (by omega)) ?_
    rw [drop_rdl l i (by omega), diag]
    congr 1; omega
theorem spec_l09Trace.ev (l : List (List Int)) (h : fieldB l = true) : Ev (fun k => spec_l09Trace.f k l) ((diag l 0).tmod 10007) := by
  obtain ⟨h1, h2, h3⟩ := fieldB_iff.1 h
  simp only [spec_l09Trace.f]
  exact Ev.to (spec_l09Trace.ev0 l h2 h3 l.length 0 0 (by omega) (by omega) (by omega)) (by simp)

/-! ### spec_l09Unit -/
-- use LibChar
theorem spec_l09Unit.ev0 (n : Nat) (hn : n ≤ 1048576) : ∀ (d i : Nat) (acc : List (List Int)), i + d = n → acc.length = i →
    Ev (fun t => spec_l09Unit.l0 t (n : Int) 0 acc (i : Int)) (acc ++ List.replicate d (List.replicate n 0)) := by
  intro d
  induction d with
  | zero =>
    intro i acc hi ha
    refine Ev.succ ?_
    have c1 : ¬ (i : Int) < (n : Int) := by omega
    simp only [spec_l09Unit.l0, if_neg c1]
    exact Ev.pure (by simp)
  | succ d ih =>
    intro i acc hi ha
    refine Ev.succ ?_
    have c1 : (i : Int) < (n : Int) := by omega
    have c2 : 0 ≤ (n : Int) := by omega
    have c3 : n ≤ 35184372088832 := by omega
    have c4 : acc.length < 5864062014805 := by omega
    have c5 : 0 ≤ (i : Int) := by omega
    have c6 : (i : Int) < ((List.replicate n (0 : Int)).length : Int) := by simp; omega
    have w1 := Aside0.mk (w64 (x := (i : Int) + 1) (by omega) (by omega))
    simp only [spec_l09Unit.l0, if_pos c1, if_pos c2, if_pos c3, if_pos c4, w1.out, Int.toNat_natCast, Option.bind_some, if_pos c5, if_pos c6, List.set_replicate_self]
    refine Ev.to (ih (i + 1) _ (by omega) (by simp; omega)) ?_
    rw [List.replicate_succ]
    simp
theorem spec_l09Unit.ev (n : Nat) (hn : n ≤ 1048576) : Ev (fun t => spec_l09Unit.f t (n : Int) 0) (List.replicate n (List.replicate n 0)) := by
  simp only [spec_l09Unit.f]
  exact Ev.to (spec_l09Unit.ev0 n hn n 0 [] (by omega) rfl) (by simp)

/-! ### spec_l09Times -/
-- use LibMat
theorem spec_l09Times.ev2 (n : Nat) (hn : n ≤ 28) (a b : List (List Int)) (ha : FM n a) (hb : FM n b) (out : List (List Int)) (i k : Nat) (hi : i < n) (hk : k < n) (hv : ¬ rd (rdl a (i : Int)) (k : Int) = 0) (R : List (List Int)) : ∀ (d j : Nat) (row : List Int), j + d = n → FR n row →
    Ev (fun t => spec_l09Times.l1 t a b out (i : Int) (axpy (rd (rdl a (i : Int)) (k : Int)) (rdl b (k : Int)) j d row) ((k + 1 : Nat) : Int)) R → Ev (fun t => spec_l09Times.l2 t a b out (i : Int) row (k : Int) (j : Int)) R := by
  have hla := ha.1
  have hlb := hb.1
  have hq := ha.rdl i hi
  have hr := hb.rdl k hk
  intro d
  induction d with
  | zero =>
    intro j row hj hrow hR
    refine Ev.succ ?_
    have c1 : ¬ (j : Int) < (a.length : Int) := by omega
    have w1 := Aside0.mk (w64 (x := (k : Int) + 1) (by omega) (by omega))
    simp only [spec_l09Times.l2, if_neg c1, w1.out]
    exact hR
  | succ d ih =>
    intro j row hj hrow hR
    have h1 := hrow.rd j
    have h2 := fm_bound h1 (hq.rd k) (hr.rd j)
    have hql := hq.1
    have hrl := hr.1
    have hrowl := hrow.1
    refine Ev.succ ?_
    have c1 : (j : Int) < (a.length : Int) := by omega
    have c2 : 0 ≤ (i : Int) := by omega
    have c3 : (i : Int) < (a.length : Int) := by omega
    have c4 : 0 ≤ (k : Int) := by omega
    have c5 : (k : Int) < ((rdl a (i : Int)).length : Int) := by omega
    have c6 : 0 ≤ (j : Int) := by omega
    have c7 : (j : Int) < (row.length : Int) := by omega
    have c8 : (k : Int) < (b.length : Int) := by omega
    have c9 : (j : Int) < ((rdl b (k : Int)).length : Int) := by omega
    have w1 := Aside0.mk (w64 (x := (j : Int) + 1) (by omega) (by omega))
    have w2 := Aside0.mk (w64 (x := rd (rdl a (i : Int)) (k : Int) * rd (rdl b (k : Int)) (j : Int)) (by omega) (by omega))
    have w3 := Aside0.mk (w64 (x := rd row (j : Int) + rd (rdl a (i : Int)) (k : Int) * rd (rdl b (k : Int)) (j : Int)) (by omega) (by omega))
    simp only [spec_l09Times.l2, rdL1_eq, if_pos c1, if_pos c2, if_pos c3, if_pos c4, if_pos c5, if_pos c6, if_pos c7, if_pos c8, if_pos c9, if_neg hv, w1.out, w2.out, w3.out, Int.toNat_natCast]
    exact ih (j + 1) _ (by omega) (hrow.set j (tm_range (by omega))) hR
theorem spec_l09Times.ev1 (n : Nat) (hn : n ≤ 28) (a b : List (List Int)) (ha : FM n a) (hb : FM n b) (out : List (List Int)) (i : Nat) (hi : i < n) (ho : out.length ≤ 28) (R : List (List Int)) : ∀ (d k : Nat) (row : List Int), k + d = n → FR n row →
    Ev (fun t => spec_l09Times.l0 t a b (out ++ [mulRow b (rdl a (i : Int)) n k d row]) ((i + 1 : Nat) : Int)) R → Ev (fun t => spec_l09Times.l1 t a b out (i : Int) row (k : Int)) R := by
  have hla := ha.1
  have hlb := hb.1
  have hq := ha.rdl i hi
  intro d
  induction d with
  | zero =>
    intro k row hk hrow hR
    refine Ev.succ ?_
    have c1 : ¬ (k : Int) < (a.length : Int) := by omega
    have c2 : out.length < 5864062014805 := by omega
    have w1 := Aside0.mk (w64 (x := (i : Int) + 1) (by omega) (by omega))
    simp only [spec_l09Times.l1, if_neg c1, if_pos c2, w1.out]
    exact hR
  | succ d ih =>
    intro k row hk hrow hR
    have hr := hb.rdl k (by omega)
    refine Ev.succ ?_
    have c1 : (k : Int) < (a.length : Int) := by omega
    simp only [spec_l09Times.l1, if_pos c1]
    by_cases hv : rd (rdl a (i : Int)) (k : Int) = 0
    · have hql := hq.1
      refine Ev.succ ?_
      have c0 : (0 : Int) < (a.length : Int) := by omega
      have c2 : 0 ≤ (i : Int) := by omega
      have c3 : (i : Int) < (a.length : Int) := by omega
      have c4 : 0 ≤ (k : Int) := by omega
      have c5 : (k : Int) < ((rdl a (i : Int)).length : Int) := by omega
      have w1 := Aside0.mk (w64 (x := (k : Int) + 1) (by omega) (by omega))
      simp only [spec_l09Times.l2, rdL1_eq, if_pos c0, if_pos c2, if_pos c3, if_pos c4, if_pos c5, if_pos hv, w1.out]
      simp only [mulRow, if_pos hv] at hR
      exact ih (k + 1) row (by omega) hrow hR
    · simp only [mulRow, if_neg hv] at hR
      exact spec_l09Times.ev2 n hn a b ha hb out i k hi (by omega) hv R n 0 row (by omega) hrow (ih (k + 1) _ (by omega) (axpy_FR (hq.rd k) hr n 0 row hrow) hR)
theorem spec_l09Times.ev0 (n : Nat) (hn : n ≤ 28) (a b : List (List Int)) (ha : FM n a) (hb : FM n b) : ∀ (d i : Nat) (out : List (List Int)), i + d = n → out.length = i →
    Ev (fun t => spec_l09Times.l0 t a b out (i : Int)) (out ++ timesM n (a.drop i) b) := by
  have hla := ha.1
  intro d
  induction d with
  | zero =>
    intro i out hi ho
    refine Ev.succ ?_
    have c1 : ¬ (i : Int) < (a.length : Int) := by omega
    simp only [spec_l09Times.l0, if_neg c1]
    exact Ev.pure (by rw [List.drop_of_length_le (by omega)]; simp [timesM])
  | succ d ih =>
    intro i out hi ho
    refine Ev.succ ?_
    have c1 : (i : Int) < (a.length : Int) := by omega
    have c2 : 0 ≤ (a.length : Int) := by omega
    have c3 : ((a.length : Int)).toNat ≤ 35184372088832 := by omega
    simp only [spec_l09Times.l0, if_pos c1, if_pos c2, if_pos c3]
    rw [show ((a.length : Int)).toNat = n from by omega]
    refine spec_l09Times.ev1 n hn a b ha hb out i (by omega) (by omega) _ n 0 _ (by omega) (FR.zeros n) ?_
    refine Ev.to (ih (i + 1) _ (by omega) (by simp; omega)) ?_
    rw [drop_rdl a i (by omega)]
    simp [timesM]
theorem spec_l09Times.ev (n : Nat) (hn : n ≤ 28) (a b : List (List Int)) (ha : FM n a) (hb : FM n b) : Ev (fun t => spec_l09Times.f t a b) (timesM n a b) := by
  simp only [spec_l09Times.f]
  exact Ev.to (spec_l09Times.ev0 n hn a b ha hb n 0 [] (by omega) rfl) (by simp)

/-! ### spec_l09Mod -/
-- use LibChar
theorem spec_l09Mod.eq (x : Int) : spec_l09Mod.f x = some (inF x) := by
  simp only [spec_l09Mod.f, inF_wrap]
  rfl

/-! ### spec_l01Own -/
theorem spec_l01Own.eq (l : List Int) (h : l.length ≤ 1099511627776) : spec_l01Own.f l = some l := by
  simp only [spec_l01Own.f, Option.bind_some, List.nil_append, List.length_nil]
  rw [if_pos (by omega)]

/-! ### spec_l09Inverse -/
-- use LibChar
theorem spec_l09Inverse.ev0 (f : Nat) : ∀ (out sq e : Int), (0 ≤ out ∧ out ≤ 10006) → (0 ≤ sq ∧ sq ≤ 10006) → 0 ≤ e → e < 2 ^ f → e ≤ 100000 →
    Ev (fun k => spec_l09Inverse.l0 k out sq e) (invGo f out sq e) := by
  induction f with
  | zero =>
    intro out sq e _ _ h0 h1 _
    refine Ev.succ ?_
    have h1' : e < 1 := h1
    have c1 : ¬ e > 0 := by omega
    simp only [spec_l09Inverse.l0, if_neg c1]
    exact Ev.now _
  | succ f ih =>
    intro out sq e ho hs h0 h1 h2
    refine Ev.succ ?_
    obtain ⟨q0, q1, q2⟩ := half_lt h0 h1
    have m1 := fm_bound (a := 0) (by omega) ho hs
    have m2 := fm_bound (a := 0) (by omega) hs hs
    have w1 := Aside0.mk (w64 (x := out * sq) (by omega) (by omega))
    have w2 := Aside0.mk (w64 (x := sq * sq) (by omega) (by omega))
    have w3 := Aside0.mk (w64 (x := Int.tdiv e 2) (by omega) (by omega))
    by_cases c1 : e > 0
    · by_cases c2 : Int.tmod e 2 = 1
      · simp only [spec_l09Inverse.l0, invGo, if_pos c1, if_pos c2, w1.out, w2.out, w3.out]
        exact ih _ _ _ (tm_range m1.1) (tm_range m2.1) q0 q1 (by omega)
      · simp only [spec_l09Inverse.l0, invGo, if_pos c1, if_neg c2, w2.out, w3.out]
        exact ih _ _ _ ho (tm_range m2.1) q0 q1 (by omega)
    · simp only [spec_l09Inverse.l0, invGo, if_neg c1]
      exact Ev.now _
theorem spec_l09Inverse.ev (x : Int) (h : 0 ≤ x ∧ x ≤ 10006) : Ev (fun k => spec_l09Inverse.f k x) (invM x) := by
  simp only [spec_l09Inverse.f]
  exact spec_l09Inverse.ev0 14 1 x 10005 (by omega) h (by omega) (by decide) (by omega)

/-! ### spec_l09Pair -/
-- use LibKi
open Go.Proofs.Ytifmdgffimckgaa.LibKr in
theorem spec_l09Pair.all : ∀ n ∈ List.range 9, ∀ i ∈ List.range 9, ∀ j ∈ List.range 9, kr.inR n ((i : Int), (j : Int)) → spec_l09Pair.f 10 (n : Int) (i : Int) (j : Int) = some ((kr.ix n ((i : Int), (j : Int)) : Nat) : Int) := by decide +kernel
open Go.Proofs.Ytifmdgffimckgaa.LibKr in
theorem spec_l09Pair.ev (n : Nat) (hn : n ≤ 8) (i j : Int) (h : kr.inR n (i, j)) : Ev (fun t => spec_l09Pair.f t (n : Int) i j) ((kr.ix n (i, j) : Nat) : Int) := by
  have h' : 1 ≤ i ∧ i < j ∧ j ≤ n := h
  have := spec_l09Pair.all n (by simp; omega) i.toNat (by simp; omega) j.toNat (by simp; omega)
  rw [show ((i.toNat : Nat) : Int) = i by omega, show ((j.toNat : Nat) : Int) = j by omega] at this
  exact Ev.of (fun k => spec_l09Pair.mono _ _ _ k) (this h)

/-! ### spec_l09Power -/
-- use LibKi
open Go.Proofs.Ytifmdgffimckgaa.LibKr in
theorem spec_l09Power.ev0 (x : Int) : ∀ (d i : Nat), d ≤ 100 → Ev (fun t => spec_l09Power.l0 t x (d : Int) (kr.pw x i)) (kr.pw x (i + d)) := by
  intro d
  induction d with
  | zero =>
    intro i _
    refine Ev.succ ?_
    have c1 : ¬ ((0 : Nat) : Int) > 0 := by omega
    simp only [spec_l09Power.l0, if_neg c1]
    exact Ev.now _
  | succ d ih =>
    intro i hd
    refine Ev.succ ?_
    have c1 : ((d + 1 : Nat) : Int) > 0 := by omega
    have w1 : wrap64 (((d + 1 : Nat) : Int) - 1) = (d : Int) := by rw [w64 (by omega) (by omega)]; omega
    simp only [spec_l09Power.l0, if_pos c1, w1]
    refine Ev.to (ih (i + 1) (by omega)) ?_
    rw [show i + 1 + d = i + (d + 1) by omega]
open Go.Proofs.Ytifmdgffimckgaa.LibKr in
theorem spec_l09Power.ev (x : Int) (e : Nat) (he : e ≤ 100) : Ev (fun t => spec_l09Power.f t x (e : Int)) (kr.pw x e) := by
  simp only [spec_l09Power.f]
  exact Ev.to (spec_l09Power.ev0 x e 0 he) (by rw [Nat.zero_add])

/-! ### spec_l09Row -/
-- use LibKi
theorem iv_inF (x : Int) : Go.Proofs.Ytifmdgffimckgaa.LibMx.iv.inF x = inF x := by
  unfold Go.Proofs.Ytifmdgffimckgaa.LibMx.iv.inF
  rw [inF_wrap]
  rfl
open Go.Proofs.Ytifmdgffimckgaa.LibKr in
theorem pairs_count (n : Nat) (h1 : 2 ≤ n) (hn : n ≤ 8) : wrap64 (Int.tdiv (wrap64 ((n : Int) * wrap64 ((n : Int) - 1))) 2) = ((kr.PF n).length : Int) := by
  have h : ∀ x ∈ List.range 9, 2 ≤ x → wrap64 (Int.tdiv (wrap64 ((x : Int) * wrap64 ((x : Int) - 1))) 2) = ((kr.PF x).length : Int) := by decide +kernel
  exact h n (by simp; omega) h1
open Go.Proofs.Ytifmdgffimckgaa.LibKr in
theorem spec_l09Row.ev (n : Nat) (hn : 2 ≤ n ∧ n ≤ 8) (k q t : Int) (hk : 1 ≤ k ∧ k < n) (hq : 1 ≤ q ∧ q ≤ 10006) (ht : 1 ≤ t ∧ t ≤ 10006) (i j : Int) (h : kr.inR n (i, j)) : Ev (fun T => spec_l09Row.f T (n : Int) k i j q t) (kr.rowI n k q t (i, j)) := by
  have h' : 1 ≤ i ∧ i < j ∧ j ≤ n := h
  have hM := pairs_count n hn.1 hn.2
  have hM28 := kr.PF_len28 n hn.2
  have k2 : wrap64 (k + 1) = k + 1 := w64 (by omega) (by omega)
  have q1 := inj.less_eq hq
  have R : ∀ {a b : Int}, 1 ≤ a → a < b → b ≤ n → kr.inR n (a, b) := fun h1 h2 h3 => ⟨h1, h2, h3⟩
  have g0 : ∀ x : Nat, (0 : Int) ≤ (x : Int) := fun x => by omega
  have gl : ∀ {a b : Int}, kr.inR n (a, b) → ((kr.ix n (a, b) : Nat) : Int) < ((kr.PF n).length : Int) := fun h1 => by have := kr.ix_lt hn.2 h1; omega
  have m0 : (kr.PF n).length ≤ 35184372088832 := by omega
  have HO := R hk.1 (by omega : k < k + 1) (by omega)
  simp only [spec_l09Row.f, hM, Int.toNat_natCast, if_pos (g0 _), if_pos m0, Option.bind_some, k2]
  refine Ev.bind (spec_l09Pair.ev n hn.2 k (k + 1) HO) ?_
  by_cases e1 : i = k
  · simp only [if_pos e1]
    refine Ev.succ ?_
    by_cases e2 : j = k + 1
    · simp only [spec_l09Row.j0, e2, beq_self_eq_true, if_true, spec_l09Mod.eq, Option.bind_some, List.length_replicate, if_pos (g0 _), if_pos (gl HO), Int.toNat_natCast]
      refine Ev.pure ?_
      rw [inj.rowI1 rfl (inj.opsA e1 rfl)]
      simp only
      rw [inj.first_em (by omega) (by omega), ← iv_inF, inj.first_spec (by omega) (by omega)]
    · have e3 : ¬ j = k := by omega
      have HP : kr.inR n (k + 1, j) := R (by omega) (by omega) h'.2.2
      have b2 : (j == k + 1) = false := by simp [e2]
      simp only [spec_l09Row.j0, b2, Bool.false_eq_true, if_false, if_neg e3, k2, if_neg e2, if_pos e1, spec_l09Mod.eq, Option.bind_some, List.length_replicate, if_pos (g0 _), if_pos (gl HO)]
      refine Ev.bind (spec_l09Pair.ev n hn.2 (k + 1) j HP) ?_
      simp only [if_pos (g0 _), if_pos (gl HP), Int.toNat_natCast]
      refine Ev.pure ?_
      rw [inj.rowI2 rfl (inj.opsD e1 (by omega)) (kr.ix_lt hn.2 HO) (inj.ix_ne hn.2 HO HP (by simp <;> omega))]
      simp only
      rw [inj.cv_wrap, q1, inj.cv_of (by omega), iv_inF]
  · simp only [if_neg e1]
    refine Ev.succ ?_
    by_cases e3 : j = k
    · have H1 : kr.inR n (i, k) := R h'.1 (by omega) (by omega)
      have H2 : kr.inR n (i, k + 1) := R h'.1 (by omega) (by omega)
      simp only [spec_l09Row.j0, Bool.false_eq_true, if_false, if_pos e3, k2]
      refine Ev.bind (spec_l09Pair.ev n hn.2 i k H1) ?_
      simp only [spec_l09Mod.eq, Option.bind_some, List.length_replicate, if_pos (g0 _), if_pos (gl H1)]
      refine Ev.bind (spec_l09Pair.ev n hn.2 i (k + 1) H2) ?_
      simp only [if_pos (g0 _), if_pos (gl H2), Int.toNat_natCast]
      refine Ev.pure ?_
      rw [inj.rowI2 rfl (inj.opsB e1 e3) (kr.ix_lt hn.2 H1) (inj.ix_ne hn.2 H1 H2 (by simp <;> omega))]
      simp only
      rw [inj.cv_wrap, inj.cv_of (by omega), iv_inF]
    by_cases e2 : j = k + 1
    · have H1 : kr.inR n (i, k) := R h'.1 (by omega) (by omega)
      have we : wrap64 (wrap64 (k - i) + 1) = (((k - i + 1).toNat : Nat) : Int) := by unfold wrap64; omega
      simp only [spec_l09Row.j0, Bool.false_eq_true, if_false, if_neg e3, k2, if_pos e2, we]
      refine Ev.bind (spec_l09Pair.ev n hn.2 i k H1) ?_
      simp only [List.length_replicate, if_pos (g0 _), if_pos (gl H1)]
      refine Ev.bind (spec_l09Power.ev q _ (by omega)) ?_
      simp only [spec_l09Mod.eq, Option.bind_some, if_pos (gl HO), Int.toNat_natCast]
      refine Ev.pure ?_
      rw [inj.rowI2 rfl (inj.opsC (by omega) e2) (kr.ix_lt hn.2 H1) (inj.ix_ne hn.2 H1 HO (by simp <;> omega))]
      simp only
      rw [inj.cv_wrap, q1, inj.cv_of (by omega), iv_inF]
    by_cases e5 : i = k + 1
    · have H1 : kr.inR n (k, j) := R hk.1 (by omega) h'.2.2
      have H2 : kr.inR n (k + 1, j) := R (by omega) (by omega) h'.2.2
      simp only [spec_l09Row.j0, Bool.false_eq_true, if_false, if_neg e3, k2, if_neg e2, if_neg e1, if_pos e5]
      refine Ev.bind (spec_l09Pair.ev n hn.2 k j H1) ?_
      simp only [List.length_replicate, if_pos (g0 _), if_pos (gl H1)]
      refine Ev.bind (spec_l09Pair.ev n hn.2 (k + 1) j H2) ?_
      simp only [spec_l09Mod.eq, Option.bind_some, if_pos (g0 _), if_pos (gl H2), Int.toNat_natCast]
      refine Ev.pure ?_
      rw [inj.rowI2 rfl (inj.opsE e5 (by omega)) (kr.ix_lt hn.2 H1) (inj.ix_ne hn.2 H1 H2 (by simp <;> omega))]
      simp only
      rw [inj.cv_wrap, inj.cv_of (by omega), iv_inF]
    · simp only [spec_l09Row.j0, Bool.false_eq_true, if_false, if_neg e3, k2, if_neg e2, if_neg e1, if_neg e5]
      refine Ev.bind (spec_l09Pair.ev n hn.2 i j h) ?_
      simp only [List.length_replicate, if_pos (g0 _), if_pos (gl h), Int.toNat_natCast, Option.bind_some]
      by_cases e6 : i < k
      · simp only [if_pos e6]
        refine Ev.succ ?_
        by_cases e7 : k + 1 < j
        · have we : wrap64 (k - i) = (((k - i).toNat : Nat) : Int) := by unfold wrap64; omega
          have d7 : decide (j > k + 1) = true := decide_eq_true e7
          simp only [spec_l09Row.j1, d7, if_true, we]
          refine Ev.bind (spec_l09Power.ev q _ (by omega)) ?_
          simp only [spec_l09Mod.eq, Option.bind_some, List.length_set, List.length_replicate, if_pos (g0 _), if_pos (gl HO), Int.toNat_natCast]
          refine Ev.pure ?_
          rw [inj.rowI2 rfl (inj.opsF e6 e7) (kr.ix_lt hn.2 h) (inj.ix_ne hn.2 h HO (by simp <;> omega))]
          simp only
          rw [inj.cv_wrap, q1, inj.cv_of (by omega), iv_inF]
        · have d7 : decide (j > k + 1) = false := decide_eq_false e7
          simp only [spec_l09Row.j1, d7, Bool.false_eq_true, if_false]
          refine Ev.pure ?_
          rw [inj.rowI1 rfl (inj.opsG h'.2.1 (by omega))]
          simp only
          rw [inj.cv_of (by omega)]
      · simp only [if_neg e6]
        refine Ev.succ ?_
        simp only [spec_l09Row.j1, Bool.false_eq_true, if_false]
        refine Ev.pure ?_
        rw [inj.rowI1 rfl (inj.opsG h'.2.1 (by omega))]
        simp only
        rw [inj.cv_of (by omega)]

/-! ### spec_l09Letter -/
-- use LibKi
open Go.Proofs.Ytifmdgffimckgaa.LibKr in
theorem spec_l09Letter.ev0 (n : Nat) (hn : 2 ≤ n ∧ n ≤ 8) (k q t : Int) (hk : 1 ≤ k ∧ k < n) (hq : 1 ≤ q ∧ q ≤ 10006) (ht : 1 ≤ t ∧ t ≤ 10006) (z : Int) (v : List (List Int)) (hv : Ev (fun T => if z < 0 then (spec_l09Solve.f T (kr.mat n k q t)).bind fun b => some b.2 else some (kr.mat n k q t)) v) :
    ∀ (d : Nat) (i : Int) (acc : List (List Int)), (d : Int) + i = n + 1 → 1 ≤ i → acc ++ (kr.PR d i).map (kr.rowI n k q t) = kr.mat n k q t → Ev (fun T => spec_l09Letter.l0 T (n : Int) z q t k acc i) v := by
  have hm : (kr.mat n k q t).length ≤ 28 := by unfold kr.mat; rw [List.length_map]; exact kr.PF_len28 n hn.2
  intro d
  induction d with
  | zero =>
    intro i acc h1 h2 h3
    refine Ev.succ ?_
    have c1 : ¬ i ≤ (n : Int) := by omega
    rw [show kr.PR 0 i = [] from rfl, List.map_nil, List.append_nil] at h3
    subst h3
    simp only [spec_l09Letter.l0, if_neg c1]
    exact hv
  | succ d ih =>
    intro i acc h1 h2 h3
    refine Ev.succ ?_
    have c1 : i ≤ (n : Int) := by omega
    have w1 : wrap64 (i + 1) = i + 1 := w64 (by omega) (by omega)
    simp only [spec_l09Letter.l0, if_pos c1, w1]
    have inner : ∀ (e : Nat) (j : Int) (acc : List (List Int)), (e : Int) + j = n + 1 → i + 1 ≤ j → acc ++ ((kr.prow i j e).map (kr.rowI n k q t) ++ (kr.PR d (i + 1)).map (kr.rowI n k q t)) = kr.mat n k q t → Ev (fun T => spec_l09Letter.l1 T (n : Int) z q t k acc i j) v := by
      intro e
      induction e with
      | zero =>
        intro j acc g1 g2 g3
        refine Ev.succ ?_
        have c2 : ¬ j ≤ (n : Int) := by omega
        simp only [spec_l09Letter.l1, if_neg c2, w1]
        exact ih (i + 1) acc (by omega) (by omega) g3
      | succ e ihe =>
        intro j acc g1 g2 g3
        refine Ev.succ ?_
        have c2 : j ≤ (n : Int) := by omega
        have w2 : wrap64 (j + 1) = j + 1 := w64 (by omega) (by omega)
        have c3 : acc.length < 5864062014805 := by
          have := congrArg List.length g3
          rw [List.length_append] at this
          omega
        simp only [spec_l09Letter.l1, if_pos c2, w2]
        refine Ev.bind (spec_l09Row.ev n hn k q t hk hq ht i j ⟨h2, by omega, by omega⟩) ?_
        simp only [if_pos c3]
        refine ihe (j + 1) _ (by omega) (by omega) ?_
        rw [← g3]
        simp [kr.prow]
    refine inner d (i + 1) acc (by omega) (by omega) ?_
    rw [← h3]
    simp [kr.PR]
open Go.Proofs.Ytifmdgffimckgaa.LibKr Go.Proofs.Ytifmdgffimckgaa.LibPi in
theorem spec_l09Letter.ev (n : Nat) (hn : 2 ≤ n ∧ n ≤ 8) (q t : Int) (hq : 1 ≤ q ∧ q ≤ 10006) (ht : 1 ≤ t ∧ t ≤ 10006) (z : Int) (hk : 1 ≤ pi.ks z ∧ pi.ks z < n) (v : List (List Int)) (hv : Ev (fun T => if z < 0 then (spec_l09Solve.f T (kr.mat n (pi.ks z) q t)).bind fun b => some b.2 else some (kr.mat n (pi.ks z) q t)) v) :
    Ev (fun T => spec_l09Letter.f T (n : Int) z q t) v := by
  simp only [spec_l09Letter.f]
  exact spec_l09Letter.ev0 n hn (pi.ks z) q t hk hq ht z v hv n 1 [] (by omega) (by omega) rfl

/-! ### impl_within -/
theorem impl_within.eq (a lo hi : Int) : impl_within.f a lo hi = some (inB a lo hi) := by
  unfold impl_within.f inB
  by_cases h : lo ≤ a <;> simp [h]

/-! ### impl_isCount -/
theorem impl_isCount.eq (a : Int) : impl_isCount.f a = some (inB a 1 8) := by simp only [impl_isCount.f, impl_within.eq, Option.bind_some]

/-! ### impl_isLetter -/
theorem impl_isLetter.eq (x n : Int) (h1 : 1 ≤ n) (h8 : n ≤ 8) : impl_isLetter.f x n = some (letterB n x) := by
  simp (disch := omega) only [impl_isLetter.f, impl_within.eq, Option.bind_some, w64]
  unfold letterB
  split <;> simp_all

/-! ### impl_IsBraid -/
theorem impl_IsBraid.ev0 (n : Int) (l : List Int) (h1 : 1 ≤ n) (h8 : n ≤ 8) (hb : l.length ≤ 200) : ∀ (d i : Nat), i + d = l.length →
    Ev (fun k => impl_IsBraid.l0 k l (l.length : Int) (i : Int) n l) ((l.drop i).all (letterB n)) := by
  intro d
  induction d with
  | zero =>
    intro i hi
    refine Ev.succ ?_
    simp (disch := omega) only [impl_IsBraid.l0, if_neg]
    exact Ev.pure (by rw [List.drop_of_length_le (by omega)]; rfl)
  | succ d ih =>
    intro i hi
    refine Ev.succ ?_
    simp (disch := omega) only [impl_IsBraid.l0, if_pos, w64, impl_isLetter.eq, Option.bind_some]
    rw [drop_rd l i (by omega), List.all_cons]
    cases h : letterB n (rd l i) with
    | true => simp only [if_true, Bool.true_and]; exact ih (i + 1) (by omega)
    | false => exact Ev.pure (by simp)
theorem impl_IsBraid.ev (n : Int) (l : List Int) : Ev (fun k => impl_IsBraid.f k n l) (isBraidB n l) := by
  simp only [impl_IsBraid.f, impl_isCount.eq, Option.bind_some]
  unfold isBraidB
  cases hn : inB n 1 8 with
  | false =>
    refine Ev.succ ?_
    simp [impl_IsBraid.j0]
    exact Ev.now _
  | true =>
    obtain ⟨h1, h8⟩ := inB_iff.1 hn
    refine Ev.succ ?_
    simp only [if_true, impl_IsBraid.j0, Bool.true_and]
    by_cases hl : l.length ≤ 200
    · have : ¬ ((l.length : Int) > 200) := by omega
      simp only [this, decide_false, Bool.false_eq_true, if_false, hl, decide_true, Bool.true_and]
      exact Ev.to (impl_IsBraid.ev0 n l h1 h8 hl l.length 0 (by omega)) (by simp)
    · have : ((l.length : Int) > 200) := by omega
      simp only [this, decide_true, if_true, hl, decide_false, Bool.false_and]
      exact Ev.now _

/-! ### impl_zeroRows -/
-- use LibMat
theorem impl_zeroRows.ev0 (n : Nat) (hn : n ≤ 1048576) : ∀ (d i : Nat) (acc : List (List Int)), i + d = n → acc.length = i →
    Ev (fun t => impl_zeroRows.l0 t (n : Int) acc (n : Int) (i : Int)) (acc ++ List.replicate d (List.replicate n 0)) := by
  intro d
  induction d with
  | zero =>
    intro i acc hi ha
    refine Ev.succ ?_
    have c1 : ¬ (i : Int) < (n : Int) := by omega
    simp only [impl_zeroRows.l0, if_neg c1]
    exact Ev.pure (by simp)
  | succ d ih =>
    intro i acc hi ha
    refine Ev.succ ?_
    have c1 : (i : Int) < (n : Int) := by omega
    have c2 : 0 ≤ (n : Int) := by omega
    have c3 : n ≤ 35184372088832 := by omega
    have c4 : acc.length < 5864062014805 := by omega
    have w1 := Aside0.mk (w64 (x := (i : Int) + 1) (by omega) (by omega))
    simp only [impl_zeroRows.l0, if_pos c1, if_pos c2, if_pos c3, if_pos c4, w1.out, Int.toNat_natCast]
    refine Ev.to (ih (i + 1) _ (by omega) (by simp; omega)) ?_
    rw [List.replicate_succ]
    simp
theorem impl_zeroRows.ev (n : Nat) (hn : n ≤ 1048576) : Ev (fun t => impl_zeroRows.f t (n : Int)) (List.replicate n (List.replicate n 0)) := by
  simp only [impl_zeroRows.f]
  exact Ev.to (impl_zeroRows.ev0 n hn n 0 [] (by omega) rfl) (by simp)

/-! ### impl_unitIn -/
-- use LibChar
theorem impl_unitIn.ev0 (n : Nat) (hn : n ≤ 28) : ∀ (post pre : List (List Int)), pre.length + post.length = n → (∀ q ∈ post, q = List.replicate n 0) →
    Ev (fun t => impl_unitIn.l0 t (pre ++ post) (n : Int) (pre.length : Int)) (pre ++ addD 1 pre.length post) := by
  intro post
  induction post with
  | nil =>
    intro pre hi hq
    simp only [List.length_nil] at hi
    refine Ev.succ ?_
    have c1 : ¬ (pre.length : Int) < (n : Int) := by omega
    simp only [impl_unitIn.l0, if_neg c1]
    exact Ev.pure (by simp [addD])
  | cons r post ih =>
    intro pre hi hq
    simp only [List.length_cons] at hi
    have hr := hq r (by simp)
    subst hr
    refine Ev.succ ?_
    have c1 : (pre.length : Int) < (n : Int) := by omega
    have c2 : 0 ≤ (pre.length : Int) := by omega
    have c3 : (pre.length : Int) < ((pre ++ List.replicate n 0 :: post).length : Int) := by simp; omega
    have e1 : rdl (pre ++ List.replicate n 0 :: post) (pre.length : Int) = List.replicate n 0 := rdl_pre _ _ _ _ rfl
    have c4 : (pre.length : Int) < ((List.replicate n (0 : Int)).length : Int) := by simp; omega
    have w1 := Aside0.mk (w64 (x := (pre.length : Int) + 1) (by omega) (by omega))
    simp only [impl_unitIn.l0, rdL1_eq, if_pos c1, if_pos c2, if_pos c3, e1, if_pos c4, w1.out, Int.toNat_natCast]
    rw [set_pre _ _ _ _ _ rfl]
    have := ih (pre ++ [(List.replicate n (0 : Int)).set pre.length 1]) (by simp; omega) (fun q h => hq q (by simp [h]))
    simp only [List.length_append, List.length_cons, List.length_nil, Int.natCast_add, Int.natCast_one, Nat.zero_add] at this
    refine Ev.to this ?_
    simp only [addD, rd_zeros]
    rw [show ((0 : Int) + 1).tmod 10007 = 1 from rfl]
    simp
theorem impl_unitIn.ev (n : Nat) (hn : n ≤ 28) : Ev (fun t => impl_unitIn.f t (n : Int)) (addD 1 0 (List.replicate n (List.replicate n 0))) := by
  simp only [impl_unitIn.f]
  refine Ev.bind (impl_zeroRows.ev n (by omega)) ?_
  exact Ev.to (impl_unitIn.ev0 n hn (List.replicate n (List.replicate n 0)) [] (by simp) (fun q h => (List.mem_replicate.1 h).2)) (by simp)

/-! ### impl_size -/
theorem impl_size.eq (x : Int) (h : -4611686018427387904 ≤ x ∧ x ≤ 4611686018427387904) : impl_size.f x = some (absI x) := by
  have e : wrap64 (-x) = -x := w64 (by omega) (by omega)
  simp only [impl_size.f, e, absI]

/-! ### impl_inField -/
-- use LibChar
theorem impl_inField.eq (x : Int) : impl_inField.f x = some (inF x) := by
  simp only [impl_inField.f, inF_wrap]
  rfl

/-! ### impl_copyOf -/
theorem impl_copyOf.eq (l : List Int) (h : l.length ≤ 1099511627776) : impl_copyOf.f l = some l := by
  simp only [impl_copyOf.f, Option.bind_some, List.nil_append, List.length_nil]
  rw [if_pos (by omega)]

/-! ### impl_inverseModulo -/
-- use LibChar
theorem impl_inverseModulo.ev0 (f : Nat) : ∀ (out sq e : Int), (0 ≤ out ∧ out ≤ 10006) → (0 ≤ sq ∧ sq ≤ 10006) → 0 ≤ e → e < 2 ^ f → e ≤ 100000 →
    Ev (fun k => impl_inverseModulo.l0 k sq 10007 out e) (invGo f out sq e) := by
  induction f with
  | zero =>
    intro out sq e _ _ h0 h1 _
    refine Ev.succ ?_
    have h1' : e < 1 := h1
    have c1 : ¬ e > 0 := by omega
    simp only [impl_inverseModulo.l0, if_neg c1]
    exact Ev.now _
  | succ f ih =>
    intro out sq e ho hs h0 h1 h2
    refine Ev.succ ?_
    obtain ⟨q0, q1, q2⟩ := half_lt h0 h1
    have m1 := fm_bound (a := 0) (by omega) ho hs
    have m2 := fm_bound (a := 0) (by omega) hs hs
    have w1 := Aside0.mk (w64 (x := out * sq) (by omega) (by omega))
    have w2 := Aside0.mk (w64 (x := sq * sq) (by omega) (by omega))
    have w3 := Aside0.mk (w64 (x := Int.tdiv e 2) (by omega) (by omega))
    have c0 : ¬ (10007 : Int) = 0 := by omega
    by_cases c1 : e > 0
    · by_cases c2 : Int.tmod e 2 = 1
      · simp only [impl_inverseModulo.l0, invGo, if_pos c1, if_pos c2, if_neg c0, w1.out, w2.out, w3.out]
        exact ih _ _ _ (tm_range m1.1) (tm_range m2.1) q0 q1 (by omega)
      · simp only [impl_inverseModulo.l0, invGo, if_pos c1, if_neg c2, if_neg c0, w2.out, w3.out]
        exact ih _ _ _ ho (tm_range m2.1) q0 q1 (by omega)
    · simp only [impl_inverseModulo.l0, invGo, if_neg c1]
      exact Ev.now _
theorem impl_inverseModulo.ev (x : Int) (h : 0 ≤ x ∧ x ≤ 10006) : Ev (fun k => impl_inverseModulo.f k x 10007) (invM x) := by
  have w : wrap64 ((10007 : Int) - 2) = 10005 := w64 (by omega) (by omega)
  simp only [impl_inverseModulo.f, w]
  exact impl_inverseModulo.ev0 14 1 x 10005 (by omega) h (by omega) (by decide) (by omega)

/-! ### impl_multiplyIn -/
-- use LibMat
theorem impl_multiplyIn.ev2 (n : Nat) (hn : n ≤ 28) (a b : List (List Int)) (v : Int) (hv : 0 ≤ v ∧ v ≤ 10006) (q r : List Int) (hr : FR n r) (pre post : List (List Int)) (i k : Nat) (hp : pre.length = i) (hk : k < n) (R : List (List Int)) : ∀ (d j : Nat) (row : List Int), j + d = n → FR n row →
    Ev (fun t => impl_multiplyIn.l1 t b (pre ++ axpy v r j d row :: post) (i : Int) a (n : Int) (i : Int) q (n : Int) ((k + 1 : Nat) : Int)) R → Ev (fun t => impl_multiplyIn.l2 t b (pre ++ row :: post) (i : Int) v a (n : Int) (i : Int) q (n : Int) (k : Int) r (n : Int) (j : Int)) R := by
  intro d
  induction d with
  | zero =>
    intro j row hj hrow hR
    refine Ev.succ ?_
    have c1 : ¬ (j : Int) < (n : Int) := by omega
    have w1 := Aside0.mk (w64 (x := (k : Int) + 1) (by omega) (by omega))
    simp only [impl_multiplyIn.l2, if_neg c1, w1.out]
    exact hR
  | succ d ih =>
    intro j row hj hrow hR
    have h1 := hrow.rd j
    have h2 := fm_bound h1 hv (hr.rd j)
    have hrl := hr.1
    have hrowl := hrow.1
    refine Ev.succ ?_
    have c1 : (j : Int) < (n : Int) := by omega
    have c2 : 0 ≤ (j : Int) := by omega
    have c3 : (j : Int) < (r.length : Int) := by omega
    have c4 : 0 ≤ (i : Int) := by omega
    have c5 : (i : Int) < ((pre ++ row :: post).length : Int) := by simp; omega
    have e1 : rdl (pre ++ row :: post) (i : Int) = row := rdl_pre _ _ _ _ hp
    have c6 : (j : Int) < (row.length : Int) := by omega
    have w1 := Aside0.mk (w64 (x := (j : Int) + 1) (by omega) (by omega))
    have w2 := Aside0.mk (w64 (x := v * rd r (j : Int)) (by omega) (by omega))
    have w3 := Aside0.mk (w64 (x := rd row (j : Int) + v * rd r (j : Int)) (by omega) (by omega))
    simp only [impl_multiplyIn.l2, rdL1_eq, if_pos c1, if_pos c2, if_pos c3, if_pos c4, if_pos c5, e1, if_pos c6, w1.out, w2.out, w3.out, Int.toNat_natCast]
    rw [set_pre2 _ _ _ _ _ hp]
    exact ih (j + 1) _ (by omega) (hrow.set j (tm_range (by omega))) hR
theorem impl_multiplyIn.ev1 (n : Nat) (hn : n ≤ 28) (a b : List (List Int)) (ha : FM n a) (hb : FM n b) (pre post : List (List Int)) (i : Nat) (hi : i < n) (hp : pre.length = i) (R : List (List Int)) : ∀ (d k : Nat) (row : List Int), k + d = n → FR n row →
    Ev (fun t => impl_multiplyIn.l0 t b (pre ++ mulRow b (rdl a (i : Int)) n k d row :: post) a (n : Int) ((i + 1 : Nat) : Int)) R → Ev (fun t => impl_multiplyIn.l1 t b (pre ++ row :: post) (i : Int) a (n : Int) (i : Int) (rdl a (i : Int)) (n : Int) (k : Int)) R := by
  have hlb := hb.1
  have hq := ha.rdl i hi
  have hql := hq.1
  intro d
  induction d with
  | zero =>
    intro k row hk hrow hR
    refine Ev.succ ?_
    have c1 : ¬ (k : Int) < (n : Int) := by omega
    have w1 := Aside0.mk (w64 (x := (i : Int) + 1) (by omega) (by omega))
    simp only [impl_multiplyIn.l1, if_neg c1, w1.out]
    exact hR
  | succ d ih =>
    intro k row hk hrow hR
    have hr := hb.rdl k (by omega)
    have hrl := hr.1
    refine Ev.succ ?_
    have c1 : (k : Int) < (n : Int) := by omega
    have c2 : 0 ≤ (k : Int) := by omega
    have c3 : (k : Int) < ((rdl a (i : Int)).length : Int) := by omega
    have c4 : (k : Int) < (b.length : Int) := by omega
    have w1 := Aside0.mk (w64 (x := (k : Int) + 1) (by omega) (by omega))
    by_cases hv : rd (rdl a (i : Int)) (k : Int) = 0
    · simp only [impl_multiplyIn.l1, rdL1_eq, if_pos c1, if_pos c2, if_pos c3, if_pos hv, w1.out]
      simp only [mulRow, if_pos hv] at hR
      exact ih (k + 1) row (by omega) hrow hR
    · simp only [impl_multiplyIn.l1, rdL1_eq, if_pos c1, if_pos c2, if_pos c3, if_neg hv, if_pos c4, hrl]
      simp only [mulRow, if_neg hv] at hR
      exact impl_multiplyIn.ev2 n hn a b _ (hq.rd k) _ _ hr pre post i k hp (by omega) R n 0 row (by omega) hrow (ih (k + 1) _ (by omega) (axpy_FR (hq.rd k) hr n 0 row hrow) hR)
theorem impl_multiplyIn.ev0 (n : Nat) (hn : n ≤ 28) (a b : List (List Int)) (ha : FM n a) (hb : FM n b) : ∀ (d i : Nat) (pre : List (List Int)), i + d = n → pre.length = i →
    Ev (fun t => impl_multiplyIn.l0 t b (pre ++ List.replicate d (List.replicate n 0)) a (n : Int) (i : Int)) (pre ++ timesM n (a.drop i) b) := by
  have hla := ha.1
  intro d
  induction d with
  | zero =>
    intro i pre hi hp
    refine Ev.succ ?_
    have c1 : ¬ (i : Int) < (n : Int) := by omega
    simp only [impl_multiplyIn.l0, if_neg c1]
    exact Ev.pure (by rw [List.drop_of_length_le (by omega)]; simp [timesM])
  | succ d ih =>
    intro i pre hi hp
    have hq := ha.rdl i (by omega)
    have hql := hq.1
    refine Ev.succ ?_
    have c1 : (i : Int) < (n : Int) := by omega
    have c2 : 0 ≤ (i : Int) := by omega
    have c3 : (i : Int) < (a.length : Int) := by omega
    simp only [impl_multiplyIn.l0, rdL1_eq, if_pos c1, if_pos c2, if_pos c3, hql]
    rw [List.replicate_succ]
    refine impl_multiplyIn.ev1 n hn a b ha hb pre _ i (by omega) hp _ n 0 _ (by omega) (FR.zeros n) ?_
    have := ih (i + 1) (pre ++ [mulRow b (rdl a (i : Int)) n 0 n (List.replicate n 0)]) (by omega) (by simp; omega)
    rw [drop_rdl a i (by omega)]
    simpa [timesM] using this
theorem impl_multiplyIn.ev (n : Nat) (hn : n ≤ 28) (a b : List (List Int)) (ha : FM n a) (hb : FM n b) : Ev (fun t => impl_multiplyIn.f t a b) (timesM n a b) := by
  have hla := ha.1
  simp only [impl_multiplyIn.f]
  rw [hla]
  refine Ev.bind (impl_zeroRows.ev n (by omega)) ?_
  exact Ev.to (impl_multiplyIn.ev0 n hn a b ha hb n 0 [] (by omega) rfl) (by simp)

/-! ### impl_KrammerMatrix -/
-- use LibKi
open Go.Proofs.Ytifmdgffimckgaa.LibMx in
theorem spec_unit1 (n : Nat) (hn : n ≤ 28) : ∀ (d i : Nat) (acc : List (List Int)), i + d = n → acc.length = i →
    Ev (fun t => spec_l09Unit.l0 t (n : Int) 1 acc (i : Int)) (acc ++ addD 1 i (List.replicate d (List.replicate n 0))) := by
  intro d
  induction d with
  | zero =>
    intro i acc hi ha
    refine Ev.succ ?_
    have c1 : ¬ (i : Int) < (n : Int) := by omega
    simp only [spec_l09Unit.l0, if_neg c1]
    exact Ev.pure (by simp [addD])
  | succ d ih =>
    intro i acc hi ha
    refine Ev.succ ?_
    have c1 : (i : Int) < (n : Int) := by omega
    have c2 : 0 ≤ (n : Int) := by omega
    have c3 : n ≤ 35184372088832 := by omega
    have c4 : acc.length < 5864062014805 := by omega
    have c5 : 0 ≤ (i : Int) := by omega
    have c6 : (i : Int) < ((List.replicate n (0 : Int)).length : Int) := by simp; omega
    have w1 := Aside0.mk (w64 (x := (i : Int) + 1) (by omega) (by omega))
    simp only [spec_l09Unit.l0, if_pos c1, if_pos c2, if_pos c3, if_pos c4, w1.out, Int.toNat_natCast, Option.bind_some, if_pos c5, if_pos c6]
    refine Ev.to (ih (i + 1) _ (by omega) (by simp; omega)) ?_
    rw [List.replicate_succ]
    simp only [addD, rd_zeros]
    rw [show ((0 : Int) + 1).tmod 10007 = 1 from rfl]
    simp
open Go.Proofs.Ytifmdgffimckgaa.LibMx in
theorem spec_unit1.ev (n : Nat) (hn : n ≤ 28) : Ev (fun t => spec_l09Unit.f t (n : Int) 1) (inj.unitM n) := by
  simp only [spec_l09Unit.f]
  exact Ev.to (spec_unit1 n hn n 0 [] (by omega) rfl) (by simp)
open Go.Proofs.Ytifmdgffimckgaa.LibMx in
/-- Both ways to the inverse. -/
theorem inv_full (m : Nat) (h1 : 1 ≤ m) (h2 : m ≤ 28) (B : List (List Int)) (hf : FM m B) (hi : inj.Inj m B) : ∃ (Z : List (List Int)) (d : Int), Ev (fun k => impl_inverseIn.f k B) (Z, d) ∧ Ev (fun k => spec_l09Solve.f k B) (d, Z) ∧ FM m Z := by
  have hS := iv2.FM_Sq hf
  have hU := iv2.unit_Sq m
  have hl := hf.1
  have hc : iv.Sq B.length B ∧ 1 ≤ B.length ∧ B.length ≤ 28 := by rw [hl]; exact ⟨hS, h1, h2⟩
  obtain ⟨Z, d, e1, e2, z1, z2⟩ := inj.full (fun k x => impl_inverseModulo.f k x 10007) (fun k x => spec_l09Inverse.f k x) m (fun x hx => impl_inverseModulo.ev x hx) (fun x hx => spec_l09Inverse.ev x hx) m 0 B (inj.unitM m) 1 hS hU (iv2.FM_FF hf) (inj.unit_FF m) hi (fun i j _ hj => by omega) (by omega)
  refine ⟨Z, d, ?_, ?_, inj.FM_of z1 z2⟩
  · simp only [impl_inverseIn.f, if_pos hc]
    rw [hl]
    refine Ev.bind (impl_unitIn.ev m h2) ?_
    simp only [if_pos hU]
    exact e1
  · simp only [spec_l09Solve.f, if_pos hc, iv2.start_glue hS]
    rw [hl]
    exact e2
theorem ks_of {n z : Int} (hn : n ≤ 8) (h : z ≠ 0 ∧ 1 - n ≤ z ∧ z ≤ n - 1) : 1 ≤ Go.Proofs.Ytifmdgffimckgaa.LibPi.pi.ks z ∧ Go.Proofs.Ytifmdgffimckgaa.LibPi.pi.ks z < n := by
  unfold Go.Proofs.Ytifmdgffimckgaa.LibPi.pi.ks mx
  rw [w64 (x := -z) (by omega) (by omega)]
  split <;> omega

open Go.Proofs.Ytifmdgffimckgaa.LibMx Go.Proofs.Ytifmdgffimckgaa.LibPi Go.Proofs.Ytifmdgffimckgaa.LibKr in
/-- The products of the letters' matrices, both ways. -/
theorem krammer_both (n m : Nat) (hn : 2 ≤ n ∧ n ≤ 8) (hm : m = (kr.PF n).length) (q t : Int) (hq : 1 ≤ q ∧ q ≤ 10006) (ht : 1 ≤ t ∧ t ≤ 10006) (l : List Int) (hlen : l.length ≤ 300) (hl : ∀ z ∈ l, 1 ≤ pi.ks z ∧ pi.ks z < n) : ∀ (d i : Nat), i + d = l.length → ∀ (O : List (List Int)), FM m O →
    ∃ r, Ev (fun T => spec_l09Krammer.l0 T (n : Int) l q t O (i : Int)) r ∧ Ev (fun T => pi.go (pi.ownG m (impl_KrammerMatrix.base T (n : Int) q t) (pi_inv T)) (fun A B => impl_multiplyIn.f T A B) (l.drop i) O) r ∧ FM m r := by
  have h2 : m ≤ 28 := by rw [hm]; exact kr.PF_len28 n hn.2
  have h1 : 1 ≤ m := by
    have h1_ := kr.ix_lt hn.2 (p := (1, 2)) ⟨by decide, by decide, by simp; omega⟩
    omega
  intro d
  induction d with
  | zero =>
    intro i hi O hO
    refine ⟨O, ?_, ?_, hO⟩
    · refine Ev.succ ?_
      have c1 : ¬ (i : Int) < (l.length : Int) := by omega
      simp only [spec_l09Krammer.l0, if_neg c1]
      exact Ev.now _
    · rw [List.drop_of_length_le (by omega)]
      simp only [pi.go]
      exact Ev.now _
  | succ d ih =>
    intro i hi O hO
    obtain ⟨z, hz⟩ : ∃ z, rd l (i : Int) = z := ⟨_, rfl⟩
    have hzl : z ∈ l := by
      rw [← hz]
      unfold rd
      rw [List.getD_eq_getElem?_getD, List.getElem?_eq_getElem (by omega : (i : Int).toNat < l.length)]
      exact List.getElem_mem _
    have hk := hl z hzl
    have hB : FM m (kr.mat n (pi.ks z) q t) := by rw [hm]; exact inj.mat_FM n (pi.ks z) q t
    have hI : inj.Inj m (kr.mat n (pi.ks z) q t) := by rw [hm]; exact inj.mat_Inj hn.2 hk hq ht
    have base : Ev (fun T => impl_KrammerMatrix.base T (n : Int) q t (pi.ks z)) (kr.mat n (pi.ks z) q t) := by
      have hc : 2 ≤ (n : Int) ∧ (n : Int) ≤ 8 ∧ 1 ≤ pi.ks z ∧ pi.ks z < (n : Int) := ⟨by omega, by omega, hk.1, hk.2⟩
      simp only [impl_KrammerMatrix.base, if_pos hc, Int.toNat_natCast]
      refine Ev.bind (impl_zeroRows.ev (kr.PF n).length (by omega)) ?_
      simp only [if_true]
      exact Ev.now _
    have letter : ∃ A, Ev (fun T => spec_l09Letter.f T (n : Int) z q t) A ∧ Ev (fun T => pi.own (impl_KrammerMatrix.base T (n : Int) q t) (pi_inv T) z) A ∧ FM m A := by
      by_cases h0 : z < 0
      · obtain ⟨Z, c, f1, f2, hZ⟩ := inv_full m h1 h2 _ hB hI
        refine ⟨Z, spec_l09Letter.ev n hn q t hq ht z hk Z ?_, ?_, hZ⟩
        · simp only [if_pos h0]
          refine Ev.bind f2 ?_
          exact Ev.now _
        · simp only [pi.own, pi_inv]
          refine Ev.bind base ?_
          simp only [if_pos h0]
          refine Ev.bind f1 ?_
          exact Ev.now _
      · refine ⟨_, spec_l09Letter.ev n hn q t hq ht z hk _ ?_, ?_, hB⟩
        · simp only [if_neg h0]
          exact Ev.now _
        · simp only [pi.own, pi_inv]
          refine Ev.bind base ?_
          simp only [if_neg h0]
          exact Ev.now _
    obtain ⟨A, a1, a2, hA⟩ := letter
    obtain ⟨r, r1, r2, hr⟩ := ih (i + 1) (by omega) (timesM m O A) (timesM_FM hO hA)
    refine ⟨r, ?_, ?_, hr⟩
    · refine Ev.succ ?_
      have c1 : (i : Int) < (l.length : Int) := by omega
      have c2 : (0 : Int) ≤ (i : Int) := by omega
      have w1 : wrap64 ((i : Int) + 1) = ((i + 1 : Nat) : Int) := by rw [w64 (by omega) (by omega)]; omega
      simp only [spec_l09Krammer.l0, if_pos c1, if_pos c2, hz, w1]
      refine Ev.bind a1 ?_
      refine Ev.bind (spec_l09Times.ev m h2 O A hO hA) ?_
      exact r1
    · rw [drop_rd l i (by omega), hz]
      simp only [pi.go, pi.ownG]
      refine Ev.bind (Ev.bind a2 (by simp only [if_pos hA.1]; exact Ev.now _)) ?_
      refine Ev.bind (impl_multiplyIn.ev m h2 O A hO hA) ?_
      exact r2
open Go.Proofs.Ytifmdgffimckgaa.LibMx Go.Proofs.Ytifmdgffimckgaa.LibPi Go.Proofs.Ytifmdgffimckgaa.LibKr in
/-- What both return at braids that are let in. -/
theorem krammer_in (n : Nat) (l : List Int) (q t : Int) (hb : isBraidB n l = true) (hn : 2 ≤ n) (hq : inB q 1 10006 = true) (ht : inB t 1 10006 = true) :
    ∃ r, Ev (fun k => spec_l09Krammer.f k (n : Int) l q t) r ∧ Ev (fun k => impl_KrammerMatrix.f k (n : Int) l q t) (r, 0) ∧ FM (kr.PF n).length r ∧ 1 ≤ (kr.PF n).length ∧ (kr.PF n).length ≤ 28 := by
  obtain ⟨h8, hl, hx⟩ := isBraidB_iff.1 hb
  have hn8 : 2 ≤ n ∧ n ≤ 8 := by omega
  have h2 := kr.PF_len28 n hn8.2
  have h1 : 1 ≤ (kr.PF n).length := by
    have h1_ := kr.ix_lt hn8.2 (p := (1, 2)) ⟨by decide, by decide, by simp; omega⟩
    omega
  have hUF : FM (kr.PF n).length (inj.unitM (kr.PF n).length) := inj.FM_of (iv2.unit_Sq _) (inj.unit_FF _)
  obtain ⟨r, r1, r2, hr⟩ := krammer_both n (kr.PF n).length hn8 rfl q t (inB_iff.1 hq) (inB_iff.1 ht) l (by omega) (fun z hz => ks_of h8.2 (hx z hz)) l.length 0 (by omega) _ hUF
  refine ⟨r, ?_, ?_, hr, h1, h2⟩
  · simp only [spec_l09Krammer.f, pairs_count n hn8.1 hn8.2]
    refine Ev.bind (spec_unit1.ev _ h2) ?_
    exact r1
  · simp only [impl_KrammerMatrix.f]
    refine Ev.bind (impl_IsBraid.ev n l) ?_
    have c1 : ¬ (n : Int) < 2 := by omega
    have c2 : (n : Int) ≤ 8 := by omega
    simp only [if_pos hb, if_neg c1, impl_isUnit.f, impl_within.eq, Option.bind_some, if_pos hq, if_pos ht, if_pos c2, Int.toNat_natCast]
    have hc : 1 ≤ ((kr.PF n).length : Int) ∧ ((kr.PF n).length : Int) ≤ 28 ∧ pi.lim l := ⟨by omega, by omega, by omega, fun z hz => by have := hx z hz; omega⟩
    have hb2 : Ev (fun k => pi_prod k (impl_KrammerMatrix.base k (n : Int) q t) ((kr.PF n).length : Int) l) r := by
      simp only [pi_prod, if_pos hc, Int.toNat_natCast]
      refine Ev.bind (impl_unitIn.ev _ h2) ?_
      exact r2
    refine Ev.bind hb2 ?_
    exact Ev.now _
/-- The error of a braid and two numbers. -/
theorem krammer_num (n : Int) (l : List Int) (q t : Int) (hf : Fits l) : Ev (fun k => spec_l09Numbers.f k n l 2 [q, t]) (if isBraidB n l = true then (if inB q 1 10006 = true then (if inB t 1 10006 = true then (if n < 2 then 2 else 0) else 2) else 2) else 1) := by
  simp only [spec_l09Numbers.f]
  refine Ev.bind (spec_l01Is.ev n l hf) ?_
  by_cases hb : isBraidB n l = true
  · simp only [if_pos hb]
    refine Ev.succ ?_
    have c1 : (0 : Int) < (([q, t] : List Int).length : Int) := by simp
    have c2 : (0 : Int) ≤ 0 := by omega
    have e1 : rd [q, t] 0 = q := rfl
    have e2 : wrap64 (0 + 1) = 1 := by rw [w64 (by omega) (by omega)]; rfl
    simp only [spec_l09Numbers.l0, if_pos c1, if_pos c2, e1, e2, spec_l01In.eq, Option.bind_some]
    by_cases hq : inB q 1 10006 = true
    · simp only [if_pos hq]
      refine Ev.succ ?_
      have c3 : (1 : Int) < (([q, t] : List Int).length : Int) := by simp
      have c4 : (0 : Int) ≤ 1 := by omega
      have e3 : rd [q, t] 1 = t := rfl
      have e4 : wrap64 (1 + 1) = 2 := by rw [w64 (by omega) (by omega)]; rfl
      simp only [spec_l09Numbers.l0, if_pos c3, if_pos c4, e3, e4, spec_l01In.eq, Option.bind_some]
      by_cases ht : inB t 1 10006 = true
      · simp only [if_pos ht]
        refine Ev.succ ?_
        have c5 : ¬ (2 : Int) < (([q, t] : List Int).length : Int) := by simp
        simp only [spec_l09Numbers.l0, if_neg c5]
        by_cases h2 : n < 2
        · simp only [if_pos h2]; exact Ev.now _
        · simp only [if_neg h2]; exact Ev.now _
      · simp only [if_neg ht]; exact Ev.now _
    · simp only [if_neg hq]; exact Ev.now _
  · simp only [if_neg hb]; exact Ev.now _
/-- The error of the program. -/
theorem krammer_out (n : Int) (l : List Int) (q t : Int) (h : ¬ (isBraidB n l = true ∧ 2 ≤ n ∧ inB q 1 10006 = true ∧ inB t 1 10006 = true)) : Ev (fun k => impl_KrammerMatrix.f k n l q t) ([], if isBraidB n l = true then 2 else 1) := by
  simp only [impl_KrammerMatrix.f]
  refine Ev.bind (impl_IsBraid.ev n l) ?_
  by_cases hb : isBraidB n l = true
  · simp only [if_pos hb]
    by_cases h2 : n < 2
    · simp only [if_pos h2]; exact Ev.now _
    · simp only [if_neg h2, impl_isUnit.f, impl_within.eq, Option.bind_some]
      by_cases hq : inB q 1 10006 = true
      · simp only [if_pos hq]
        by_cases ht : inB t 1 10006 = true
        · exact absurd ⟨hb, by omega, hq, ht⟩ h
        · simp only [if_neg ht]; exact Ev.now _
      · simp only [if_neg hq]; exact Ev.now _
  · simp only [if_neg hb]; exact Ev.now _

/-! ### impl_traceIn -/
theorem impl_traceIn.ev0 (l : List (List Int)) (hb : l.length ≤ 28) (hq : ∀ q ∈ l, q.length = l.length ∧ ∀ x ∈ q, 0 ≤ x ∧ x ≤ 10006) : ∀ (d i : Nat) (acc : Int), i + d = l.length → 0 ≤ acc → acc ≤ 10006 * i →
    Ev (fun k => impl_traceIn.l0 k acc l (l.length : Int) (i : Int)) ((acc + diag (l.drop i) i).tmod 10007) := by
  intro d
  induction d with
  | zero =>
    intro i acc hi h0 h1
    refine Ev.succ ?_
    simp (disch := omega) only [impl_traceIn.l0, if_neg]
    exact Ev.pure (by rw [List.drop_of_length_le (by omega)]; simp [diag])
  | succ d ih =>
    intro i acc hi h0 h1
    refine Ev.succ ?_
    obtain ⟨hl, hx⟩ := hq _ (rdl_mem l i (by omega))
    have hr := rd_range hx i
    simp (disch := omega) only [impl_traceIn.l0, if_pos, rdL1_eq, w64]
    refine Ev.to (ih (i + 1) (acc + rd (rdl l (i : Int)) (i : Int)) (by omega) (by omega) (by omega)) ?_
    rw [drop_rdl l i (by omega), diag]
    congr 1; omega
theorem impl_traceIn.ev (l : List (List Int)) (h : fieldB l = true) : Ev (fun k => impl_traceIn.f k l) ((diag l 0).tmod 10007) := by
  obtain ⟨h1, h2, h3⟩ := fieldB_iff.1 h
  simp only [impl_traceIn.f]
  exact Ev.to (impl_traceIn.ev0 l h2 h3 l.length 0 0 (by omega) (by omega) (by omega)) (by simp)

-- says For all braids and numbers the program's KrammerTrace returns what the reference's returns and keeps its argument; no conditions.
-- row braid int int
-- use LibKi
theorem trace_law (n : Int) (l : List Int) (q t : Int) (hf : Fits l) : ∃ (v c : Int), Ev (fun k => spec_KrammerTrace.f k n l q t) (v, c) ∧ Ev (fun k => impl_KrammerTrace.f k n l q t) (v, c) := by
  have num := krammer_num n l q t hf
  by_cases h : isBraidB n l = true ∧ 2 ≤ n ∧ inB q 1 10006 = true ∧ inB t 1 10006 = true
  · obtain ⟨hb, h2, hq, ht⟩ := h
    have c2 : ¬ n < 2 := by omega
    simp only [if_pos hb, if_pos hq, if_pos ht, if_neg c2] at num
    obtain ⟨m, hm⟩ : ∃ m : Nat, n = m := ⟨n.toNat, by omega⟩
    subst hm
    obtain ⟨r, r1, r2, hr, h1, h28⟩ := krammer_in m l q t hb (by omega) hq ht
    have hfb : fieldB r = true := FM_fieldB h1 h28 hr
    refine ⟨(diag r 0).tmod 10007, 0, ?_, ?_⟩
    · simp only [spec_KrammerTrace.f]
      refine Ev.bind num ?_
      simp only [if_true]
      refine Ev.bind r1 ?_
      refine Ev.bind (spec_l09Trace.ev r hfb) ?_
      exact Ev.now _
    · simp only [impl_KrammerTrace.f]
      refine Ev.bind r2 ?_
      simp only [if_true]
      refine Ev.bind (impl_traceIn.ev r hfb) ?_
      exact Ev.now _
  · refine ⟨0, if isBraidB n l = true then 2 else 1, ?_, ?_⟩
    · simp only [spec_KrammerTrace.f]
      refine Ev.bind num ?_
      by_cases hb : isBraidB n l = true
      · have e : (if inB q 1 10006 = true then (if inB t 1 10006 = true then (if n < 2 then (2 : Int) else 0) else 2) else 2) = 2 := by
          by_cases hq : inB q 1 10006 = true
          · by_cases ht : inB t 1 10006 = true
            · have c2 : n < 2 := by
                by_cases h2 : n < 2
                · exact h2
                · exact absurd ⟨hb, by omega, hq, ht⟩ h
              simp only [if_pos hq, if_pos ht, if_pos c2]
            · simp only [if_pos hq, if_neg ht]
          · simp only [if_neg hq]
        simp only [if_pos hb, e]
        exact Ev.now _
      · simp only [if_neg hb]
        exact Ev.now _
    · simp only [impl_KrammerTrace.f]
      refine Ev.bind (krammer_out n l q t h) ?_
      by_cases hb : isBraidB n l = true
      · simp only [if_pos hb]
        exact Ev.now _
      · simp only [if_neg hb]
        exact Ev.now _
theorem law (n : Int) (l : List Int) (q t : Int) (hl : l.length ≤ maxLen) (hw : ∀ x ∈ l, (Lit.int .i64 x).wf = true) (_ : (Lit.int .i64 q).wf = true) (_ : (Lit.int .i64 t).wf = true) : ∃ k, laws_FnExactKrammerTrace.f k n l q t = some true := by
  have hf := Fits.of hw
  have hsz := laws_szBraid.eq n l 1048576 (by omega) (by omega) hl
  by_cases hz : (1048576 : Int) - l.length < 0
  · rw [if_pos hz] at hsz
    exact ⟨0, by simp only [laws_FnExactKrammerTrace.f, hsz, Option.bind_some]; rfl⟩
  rw [if_neg hz] at hsz
  obtain ⟨r, c, h2, h3⟩ := trace_law n l q t hf
  have h1 := laws_toBraid.ev n l (by omega)
  have h4 := laws_eqBraid.ev n n l l (by omega)
  refine Ev.rounds ?_
  simp only [laws_FnExactKrammerTrace.f, hsz, Option.bind_some, if_neg hz]
  (try simp only [laws_FnExactKrammerTrace.f])
  repeat (first | (with_reducible refine Ev.bind h1 ?_; (try dsimp only)) | (with_reducible refine Ev.bind h2 ?_; (try dsimp only)) | (with_reducible refine Ev.bind h3 ?_; (try dsimp only)) | (with_reducible refine Ev.bind h4 ?_; (try dsimp only)) | (simp only [if_true, if_false, eq_self, decide_true, decide_false, Bool.and_self, Bool.true_and, Bool.and_true, bne_self_eq_false, Bool.not_true, Bool.not_false, Bool.false_eq_true, reduceCtorEq, iota_length]))
  refine Ev.succ ?_
  simp only [laws_FnExactKrammerTrace.j0]
  repeat (first | (with_reducible refine Ev.bind h1 ?_; (try dsimp only)) | (with_reducible refine Ev.bind h2 ?_; (try dsimp only)) | (with_reducible refine Ev.bind h3 ?_; (try dsimp only)) | (with_reducible refine Ev.bind h4 ?_; (try dsimp only)) | (simp only [if_true, if_false, eq_self, decide_true, decide_false, Bool.and_self, Bool.true_and, Bool.and_true, bne_self_eq_false, Bool.not_true, Bool.not_false, Bool.false_eq_true, reduceCtorEq, iota_length]))
  exact Ev.now _

end Go.Proofs.Ytifmdgffimckgaa.PureFnExactKrammerTrace
