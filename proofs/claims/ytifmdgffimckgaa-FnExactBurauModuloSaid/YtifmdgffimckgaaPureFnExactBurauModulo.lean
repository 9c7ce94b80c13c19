/- For all braids and numbers the program's BurauModulo returns what the reference's returns, keeps its argument and shares no memory; no conditions. -/
import Derived.Test.YtifmdgffimckgaaMFnExactBurauModulox
import Derived.Test.YtifmdgffimckgaaLib
import Derived.Test.YtifmdgffimckgaaLibBu
import Derived.Test.YtifmdgffimckgaaLibChar
import Derived.Test.YtifmdgffimckgaaLibMat
import Derived.Test.YtifmdgffimckgaaLibRows
set_option linter.unusedVariables false
set_option linter.unusedSimpArgs false
set_option maxRecDepth 10000
set_option maxHeartbeats 4000000
namespace Go.Proofs.Ytifmdgffimckgaa.PureFnExactBurauModulo
open Go.RowKit Go.Proofs.Ytifmdgffimckgaa.MFnExactBurauModulo Go.Proofs.YtifmdgffimckgaaW.PrintWords Go.Proofs.Ytifmdgffimckgaa.Lib

theorem rdL1_eq (xs : List (List Int)) (i : Int) : rd_L1 xs i = rdl xs i := by
  have h : rd_L1 xs i = xs.getD i.toNat [] := by unfold rd_L1; rfl
  rw [h, rdl]

/-! ### laws_szInt64S -/
theorem laws_szInt64S.eq (l : List Int) (x : Int) (h0 : 0 ≤ x) (h1 : x ≤ 1048576) (hl : l.length ≤ maxLen) : laws_szInt64S.f l x = some (if x - l.length < 0 then -1 else x - l.length) := by
  unfold maxLen at hl
  simp (disch := omega) only [laws_szInt64S.f, w64]
  split <;> rfl

/-! ### laws_szBraid -/
theorem laws_szBraid.eq (n : Int) (l : List Int) (x : Int) (h0 : 0 ≤ x) (h1 : x ≤ 1048576) (hl : l.length ≤ maxLen) : laws_szBraid.f n l x = some (if x - l.length < 0 then -1 else x - l.length) := by
  simp (disch := assumption) only [laws_szBraid.f, laws_szInt64S.eq, Option.bind_some]
  by_cases h : x - l.length < 0
  · simp [h]
  · simp [h]

/-! ### spec_l01In -/
theorem spec_l01In.eq (a lo hi : Int) : spec_l01In.f a lo hi = some (inB a lo hi) := by
  unfold spec_l01In.f inB
  by_cases h : lo ≤ a <;> simp [h]

/-! ### spec_l01Is -/
theorem spec_l01Is.letter (n x : Int) (h1 : 1 ≤ n) (h8 : n ≤ 8) (hx : -9223372036854775808 ≤ x ∧ x ≤ 9223372036854775807) : (inB x 1 (n - 1) || inB (wrap64 (-x)) 1 (n - 1)) = letterB n x := by
  unfold inB letterB inB wrap64
  rw [Bool.eq_iff_iff]; simp; omega
theorem spec_l01Is.ev0 (n : Int) (l : List Int) (h1 : 1 ≤ n) (h8 : n ≤ 8) (hb : l.length ≤ 200) (hf : Fits l) : ∀ (d i : Nat), i + d = l.length →
    Ev (fun k => spec_l01Is.l0 k (i : Int) n l) ((l.drop i).all (letterB n)) := by
  intro d
  induction d with
  | zero =>
    intro i hi
    refine Ev.succ ?_
    simp (disch := omega) only [spec_l01Is.l0, if_neg]
    exact Ev.pure (by rw [List.drop_of_length_le (by omega)]; rfl)
  | succ d ih =>
    intro i hi
    refine Ev.succ ?_
    have hx := hf (rd l i) (rd_mem l i (by omega))
    have hl := spec_l01Is.letter n (rd l i) h1 h8 hx
    have hw : wrap64 (n - 1) = n - 1 := w64 (by omega) (by omega)
    have hw2 : wrap64 ((i : Int) + 1) = ((i + 1 : Nat) : Int) := w64 (by omega) (by omega)
    simp (disch := omega) only [spec_l01Is.l0, if_pos, hw, hw2, spec_l01In.eq, Option.bind_some]
    rw [drop_rd l i (by omega), List.all_cons, ← hl]
    cases h : inB (rd l i) 1 (n - 1) with
    | true => simp only [if_true, Bool.true_or, Bool.true_and]; exact ih (i + 1) (by omega)
    | false =>
      cases h' : inB (wrap64 (-(rd l i))) 1 (n - 1) with
      | true => simp only [if_true, Bool.false_or, Bool.true_and, Bool.false_eq_true, if_false]; exact ih (i + 1) (by omega)
      | false => exact Ev.pure (by simp)
theorem spec_l01Is.ev (n : Int) (l : List Int) (hf : Fits l) : Ev (fun k => spec_l01Is.f k n l) (isBraidB n l) := by
  simp only [spec_l01Is.f, spec_l01In.eq, Option.bind_some]
  unfold isBraidB
  cases hn : inB n 1 8 with
  | false =>
    refine Ev.succ ?_
    simp [spec_l01Is.j0]
    exact Ev.now _
  | true =>
    obtain ⟨h1, h8⟩ := inB_iff.1 hn
    refine Ev.succ ?_
    simp only [if_true, spec_l01Is.j0, Bool.true_and]
    by_cases hl : l.length ≤ 200
    · have : ¬ ((l.length : Int) > 200) := by omega
      simp only [this, decide_false, Bool.false_eq_true, if_false, hl, decide_true, Bool.true_and]
      exact Ev.to (spec_l01Is.ev0 n l h1 h8 hl hf l.length 0 (by omega)) (by simp)
    · have : ((l.length : Int) > 200) := by omega
      simp only [this, decide_true, if_true, hl, decide_false, Bool.false_and]
      exact Ev.now _

/-! ### spec_l09Unit -/
-- use LibChar
theorem spec_l09Unit.ev0 (n : Nat) (hn : n ≤ 1048576) : ∀ (d i : Nat) (acc : List (List Int)), i + d = n → acc.length = i →
    Ev (fun t => spec_l09Unit.l0 t (n : Int) 0 acc (i : Int)) (acc ++ List.replicate d (List.replicate n 0)) := by
  intro d
  induction d with
  | zero =>
    intro i acc hi ha
    refine Ev.succ ?_
    have c1 : ¬ (i : Int) < (n : Int) := by omega
    simp only [spec_l09Unit.l0, if_neg c1]
    exact Ev.pure (by simp)
  | succ d ih =>
    intro i acc hi ha
    refine Ev.succ ?_
    have c1 : (i : Int) < (n : Int) := by omega
    have c2 : 0 ≤ (n : Int) := by omega
    have c3 : n ≤ 35184372088832 := by omega
    have c4 : acc.length < 5864062014805 := by omega
    have c5 : 0 ≤ (i : Int) := by omega
    have c6 : (i : Int) < ((List.replicate n (0 : Int)).length : Int) := by simp; omega
    have w1 := Aside0.mk (w64 (x := (i : Int) + 1) (by omega) (by omega))
    simp only [spec_l09Unit.l0, if_pos c1, if_pos c2, if_pos c3, if_pos c4, w1.out, Int.toNat_natCast, Option.bind_some, if_pos c5, if_pos c6, List.set_replicate_self]
    refine Ev.to (ih (i + 1) _ (by omega) (by simp; omega)) ?_
    rw [List.replicate_succ]
    simp
theorem spec_l09Unit.ev (n : Nat) (hn : n ≤ 1048576) : Ev (fun t => spec_l09Unit.f t (n : Int) 0) (List.replicate n (List.replicate n 0)) := by
  simp only [spec_l09Unit.f]
  exact Ev.to (spec_l09Unit.ev0 n hn n 0 [] (by omega) rfl) (by simp)

/-! ### spec_l09Mod -/
-- use LibChar
theorem spec_l09Mod.eq (x : Int) : spec_l09Mod.f x = some (inF x) := by
  simp only [spec_l09Mod.f, inF_wrap]
  rfl

/-! ### spec_l01Own -/
theorem spec_l01Own.eq (l : List Int) (h : l.length ≤ 1099511627776) : spec_l01Own.f l = some l := by
  simp only [spec_l01Own.f, Option.bind_some, List.nil_append, List.length_nil]
  rw [if_pos (by omega)]

/-! ### spec_l09Inverse -/
-- use LibChar
theorem spec_l09Inverse.ev0 (f : Nat) : ∀ (out sq e : Int), (0 ≤ out ∧ out ≤ 10006) → (0 ≤ sq ∧ sq ≤ 10006) → 0 ≤ e → e < 2 ^ f → e ≤ 100000 →
    Ev (fun k => spec_l09Inverse.l0 k out sq e) (invGo f out sq e) := by
  induction f with
  | zero =>
    intro out sq e _ _ h0 h1 _
    refine Ev.succ ?_
    have h1' : e < 1 := h1
    have c1 : ¬ e > 0 := by omega
    simp only [spec_l09Inverse.l0, if_neg c1]
    exact Ev.now _
  | succ f ih =>
    intro out sq e ho hs h0 h1 h2
    refine Ev.succ ?_
    obtain ⟨q0, q1, q2⟩ := half_lt h0 h1
    have m1 := fm_bound (a := 0) (by omega) ho hs
    have m2 := fm_bound (a := 0) (by omega) hs hs
    have w1 := Aside0.mk (w64 (x := out * sq) (by omega) (by omega))
    have w2 := Aside0.mk (w64 (x := sq * sq) (by omega) (by omega))
    have w3 := Aside0.mk (w64 (x := Int.tdiv e 2) (by omega) (by omega))
    by_cases c1 : e > 0
    · by_cases c2 : Int.tmod e 2 = 1
      · simp only [spec_l09Inverse.l0, invGo, if_pos c1, if_pos c2, w1.out, w2.out, w3.out]
        exact ih _ _ _ (tm_range m1.1) (tm_range m2.1) q0 q1 (by omega)
      · simp only [spec_l09Inverse.l0, invGo, if_pos c1, if_neg c2, w2.out, w3.out]
        exact ih _ _ _ ho (tm_range m2.1) q0 q1 (by omega)
    · simp only [spec_l09Inverse.l0, invGo, if_neg c1]
      exact Ev.now _
theorem spec_l09Inverse.ev (x : Int) (h : 0 ≤ x ∧ x ≤ 10006) : Ev (fun k => spec_l09Inverse.f k x) (invM x) := by
  simp only [spec_l09Inverse.f]
  exact spec_l09Inverse.ev0 14 1 x 10005 (by omega) h (by omega) (by decide) (by omega)

/-! ### spec_l09Times -/
-- use LibMat
theorem spec_l09Times.ev2 (n : Nat) (hn : n ≤ 28) (a b : List (List Int)) (ha : FM n a) (hb : FM n b) (out : List (List Int)) (i k : Nat) (hi : i < n) (hk : k < n) (hv : ¬ rd (rdl a (i : Int)) (k : Int) = 0) (R : List (List Int)) : ∀ (d j : Nat) (row : List Int), j + d = n → FR n row →
    Ev (fun t => spec_l09Times.l1 t a b out (i : Int) (axpy (rd (rdl a (i : Int)) (k : Int)) (rdl b (k : Int)) j d row) ((k + 1 : Nat) : Int)) R → Ev (fun t => spec_l09Times.l2 t a b out (i : Int) row (k : Int) (j : Int)) R := by
  have hla := ha.1
  have hlb := hb.1
  have hq := ha.rdl i hi
  have hr := hb.rdl k hk
  intro d
  induction d with
  | zero =>
    intro j row hj hrow hR
    refine Ev.succ ?_
    have c1 : ¬ (j : Int) < (a.length : Int) := by omega
    have w1 := Aside0.mk (w64 (x := (k : Int) + 1) (by omega) (by omega))
    simp only [spec_l09Times.l2, if_neg c1, w1.out]
    exact hR
  | succ d ih =>
    intro j row hj hrow hR
    have h1 := hrow.rd j
    have h2 := fm_bound h1 (hq.rd k) (hr.rd j)
    have hql := hq.1
    have hrl := hr.1
    have hrowl := hrow.1
    refine Ev.succ ?_
    have c1 : (j : Int) < (a.length : Int) := by omega
    have c2 : 0 ≤ (i : Int) := by omega
    have c3 : (i : Int) < (a.length : Int) := by omega
    have c4 : 0 ≤ (k : Int) := by omega
    have c5 : (k : Int) < ((rdl a (i : Int)).length : Int) := by omega
    have c6 : 0 ≤ (j : Int) := by omega
    have c7 : (j : Int) < (row.length : Int) := by omega
    have c8 : (k : Int) < (b.length : Int) := by omega
    have c9 : (j : Int) < ((rdl b (k : Int)).length : Int) := by omega
    have w1 := Aside0.mk (w64 (x := (j : Int) + 1) (by omega) (by omega))
    have w2 := Aside0.mk (w64 (x := rd (rdl a (i : Int)) (k : Int) * rd (rdl b (k : Int)) (j : Int)) (by omega) (by omega))
    have w3 := Aside0.mk (w64 (x := rd row (j : Int) + rd (rdl a (i : Int)) (k : Int) * rd (rdl b (k : Int)) (j : Int)) (by omega) (by omega))
    simp only [spec_l09Times.l2, rdL1_eq, if_pos c1, if_pos c2, if_pos c3, if_pos c4, if_pos c5, if_pos c6, if_pos c7, if_pos c8, if_pos c9, if_neg hv, w1.out, w2.out, w3.out, Int.toNat_natCast]
    exact ih (j + 1) _ (by omega) (hrow.set j (tm_range (by omega))) hR
theorem spec_l09Times.ev1 (n : Nat) (hn : n ≤ 28) (a b : List (List Int)) (ha : FM n a) (hb : FM n b) (out : List (List Int)) (i : Nat) (hi : i < n) (ho : out.length ≤ 28) (R : List (List Int)) : ∀ (d k : Nat) (row : List Int), k + d = n → FR n row →
    Ev (fun t => spec_l09Times.l0 t a b (out ++ [mulRow b (rdl a (i : Int)) n k d row]) ((i + 1 : Nat) : Int)) R → Ev (fun t => spec_l09Times.l1 t a b out (i : Int) row (k : Int)) R := by
  have hla := ha.1
  have hlb := hb.1
  have hq := ha.rdl i hi
  intro d
  induction d with
  | zero =>
    intro k row hk hrow hR
    refine Ev.succ ?_
    have c1 : ¬ (k : Int) < (a.length : Int) := by omega
    have c2 : out.length < 5864062014805 := by omega
    have w1 := Aside0.mk (w64 (x := (i : Int) + 1) (by omega) (by omega))
    simp only [spec_l09Times.l1, if_neg c1, if_pos c2, w1.out]
    exact hR
  | succ d ih =>
    intro k row hk hrow hR
    have hr := hb.rdl k (by omega)
    refine Ev.succ ?_
    have c1 : (k : Int) < (a.length : Int) := by omega
    simp only [spec_l09Times.l1, if_pos c1]
    by_cases hv : rd (rdl a (i : Int)) (k : Int) = 0
    · have hql := hq.1
      refine Ev.succ ?_
      have c0 : (0 : Int) < (a.length : Int) := by omega
      have c2 : 0 ≤ (i : Int) := by omega
      have c3 : (i : Int) < (a.length : Int) := by omega
      have c4 : 0 ≤ (k : Int) := by omega
      have c5 : (k : Int) < ((rdl a (i : Int)).length : Int) := by omega
      have w1 := Aside0.mk (w64 (x := (k : Int) + 1) (by omega) (by omega))
      simp only [spec_l09Times.l2, rdL1_eq, if_pos c0, if_pos c2, if_pos c3, if_pos c4, if_pos c5, if_pos hv, w1.out]
      simp only [mulRow, if_pos hv] at hR
      exact ih (k + 1) row (by omega) hrow hR
    · simp only [mulRow, if_neg hv] at hR
      exact spec_l09Times.ev2 n hn a b ha hb out i k hi (by omega) hv R n 0 row (by omega) hrow (ih (k + 1) _ (by omega) (axpy_FR (hq.rd k) hr n 0 row hrow) hR)
theorem spec_l09Times.ev0 (n : Nat) (hn : n ≤ 28) (a b : List (List Int)) (ha : FM n a) (hb : FM n b) : ∀ (d i : Nat) (out : List (List Int)), i + d = n → out.length = i →
    Ev (fun t => spec_l09Times.l0 t a b out (i : Int)) (out ++ timesM n (a.drop i) b) := by
  have hla := ha.1
  intro d
  induction d with
  | zero =>
    intro i out hi ho
    refine Ev.succ ?_
    have c1 : ¬ (i : Int) < (a.length : Int) := by omega
    simp only [spec_l09Times.l0, if_neg c1]
    exact Ev.pure (by rw [List.drop_of_length_le (by omega)]; simp [timesM])
  | succ d ih =>
    intro i out hi ho
    refine Ev.succ ?_
    have c1 : (i : Int) < (a.length : Int) := by omega
    have c2 : 0 ≤ (a.length : Int) := by omega
    have c3 : ((a.length : Int)).toNat ≤ 35184372088832 := by omega
    simp only [spec_l09Times.l0, if_pos c1, if_pos c2, if_pos c3]
    rw [show ((a.length : Int)).toNat = n from by omega]
    refine spec_l09Times.ev1 n hn a b ha hb out i (by omega) (by omega) _ n 0 _ (by omega) (FR.zeros n) ?_
    refine Ev.to (ih (i + 1) _ (by omega) (by simp; omega)) ?_
    rw [drop_rdl a i (by omega)]
    simp [timesM]
theorem spec_l09Times.ev (n : Nat) (hn : n ≤ 28) (a b : List (List Int)) (ha : FM n a) (hb : FM n b) : Ev (fun t => spec_l09Times.f t a b) (timesM n a b) := by
  simp only [spec_l09Times.f]
  exact Ev.to (spec_l09Times.ev0 n hn a b ha hb n 0 [] (by omega) rfl) (by simp)

/-! ### laws_toInt64S -/
theorem laws_toInt64S.ev0 (l : List Int) (hb : l.length ≤ 17592186044416) : ∀ (d i : Nat) (acc : List Int), i + d = l.length → acc.length = l.length →
    Ev (fun k => laws_toInt64S.l0 k l acc (i : Int)) (acc.take i ++ l.drop i) := by
  intro d
  induction d with
  | zero =>
    intro i acc hi ha
    refine Ev.succ ?_
    simp (disch := omega) only [laws_toInt64S.l0, if_neg]
    exact Ev.pure (by rw [List.take_of_length_le (by omega), List.drop_of_length_le (by omega), List.append_nil])
  | succ d ih =>
    intro i acc hi ha
    refine Ev.succ ?_
    simp (disch := omega) only [laws_toInt64S.l0, if_pos, w64]
    refine Ev.to (ih (i + 1) (acc.set i (rd l i)) (by omega) (by simpa using ha)) ?_
    rw [take_set_succ _ _ _ (by omega), drop_rd l i (by omega), List.append_assoc]; rfl
theorem laws_toInt64S.ev (l : List Int) (hb : l.length ≤ 17592186044416) : Ev (fun k => laws_toInt64S.f k l) l := by
  simp (disch := omega) only [laws_toInt64S.f, if_pos]
  refine Ev.to (laws_toInt64S.ev0 l hb l.length 0 (List.replicate l.length 0) (by omega) (by simp)) (by simp)

/-! ### laws_toBraid -/
theorem laws_toBraid.ev (n : Int) (l : List Int) (hb : l.length ≤ 17592186044416) : Ev (fun k => laws_toBraid.f k n l) (n, l) := by
  simp only [laws_toBraid.f]
  exact Ev.bind (laws_toInt64S.ev l hb) (Ev.now _)

/-! ### impl_within -/
theorem impl_within.eq (a lo hi : Int) : impl_within.f a lo hi = some (inB a lo hi) := by
  unfold impl_within.f inB
  by_cases h : lo ≤ a <;> simp [h]

/-! ### impl_isCount -/
theorem impl_isCount.eq (a : Int) : impl_isCount.f a = some (inB a 1 8) := by simp only [impl_isCount.f, impl_within.eq, Option.bind_some]

/-! ### impl_isLetter -/
theorem impl_isLetter.eq (x n : Int) (h1 : 1 ≤ n) (h8 : n ≤ 8) : impl_isLetter.f x n = some (letterB n x) := by
  simp (disch := omega) only [impl_isLetter.f, impl_within.eq, Option.bind_some, w64]
  unfold letterB
  split <;> simp_all

/-! ### impl_IsBraid -/
theorem impl_IsBraid.ev0 (n : Int) (l : List Int) (h1 : 1 ≤ n) (h8 : n ≤ 8) (hb : l.length ≤ 200) : ∀ (d i : Nat), i + d = l.length →
    Ev (fun k => impl_IsBraid.l0 k l (l.length : Int) (i : Int) n l) ((l.drop i).all (letterB n)) := by
  intro d
  induction d with
  | zero =>
    intro i hi
    refine Ev.succ ?_
    simp (disch := omega) only [impl_IsBraid.l0, if_neg]
    exact Ev.pure (by rw [List.drop_of_length_le (by omega)]; rfl)
  | succ d ih =>
    intro i hi
    refine Ev.succ ?_
    simp (disch := omega) only [impl_IsBraid.l0, if_pos, w64, impl_isLetter.eq, Option.bind_some]
    rw [drop_rd l i (by omega), List.all_cons]
    cases h : letterB n (rd l i) with
    | true => simp only [if_true, Bool.true_and]; exact ih (i + 1) (by omega)
    | false => exact Ev.pure (by simp)
theorem impl_IsBraid.ev (n : Int) (l : List Int) : Ev (fun k => impl_IsBraid.f k n l) (isBraidB n l) := by
  simp only [impl_IsBraid.f, impl_isCount.eq, Option.bind_some]
  unfold isBraidB
  cases hn : inB n 1 8 with
  | false =>
    refine Ev.succ ?_
    simp [impl_IsBraid.j0]
    exact Ev.now _
  | true =>
    obtain ⟨h1, h8⟩ := inB_iff.1 hn
    refine Ev.succ ?_
    simp only [if_true, impl_IsBraid.j0, Bool.true_and]
    by_cases hl : l.length ≤ 200
    · have : ¬ ((l.length : Int) > 200) := by omega
      simp only [this, decide_false, Bool.false_eq_true, if_false, hl, decide_true, Bool.true_and]
      exact Ev.to (impl_IsBraid.ev0 n l h1 h8 hl l.length 0 (by omega)) (by simp)
    · have : ((l.length : Int) > 200) := by omega
      simp only [this, decide_true, if_true, hl, decide_false, Bool.false_and]
      exact Ev.now _

/-! ### impl_zeroRows -/
-- use LibMat
theorem impl_zeroRows.ev0 (n : Nat) (hn : n ≤ 1048576) : ∀ (d i : Nat) (acc : List (List Int)), i + d = n → acc.length = i →
    Ev (fun t => impl_zeroRows.l0 t (n : Int) acc (n : Int) (i : Int)) (acc ++ List.replicate d (List.replicate n 0)) := by
  intro d
  induction d with
  | zero =>
    intro i acc hi ha
    refine Ev.succ ?_
    have c1 : ¬ (i : Int) < (n : Int) := by omega
    simp only [impl_zeroRows.l0, if_neg c1]
    exact Ev.pure (by simp)
  | succ d ih =>
    intro i acc hi ha
    refine Ev.succ ?_
    have c1 : (i : Int) < (n : Int) := by omega
    have c2 : 0 ≤ (n : Int) := by omega
    have c3 : n ≤ 35184372088832 := by omega
    have c4 : acc.length < 5864062014805 := by omega
    have w1 := Aside0.mk (w64 (x := (i : Int) + 1) (by omega) (by omega))
    simp only [impl_zeroRows.l0, if_pos c1, if_pos c2, if_pos c3, if_pos c4, w1.out, Int.toNat_natCast]
    refine Ev.to (ih (i + 1) _ (by omega) (by simp; omega)) ?_
    rw [List.replicate_succ]
    simp
theorem impl_zeroRows.ev (n : Nat) (hn : n ≤ 1048576) : Ev (fun t => impl_zeroRows.f t (n : Int)) (List.replicate n (List.replicate n 0)) := by
  simp only [impl_zeroRows.f]
  exact Ev.to (impl_zeroRows.ev0 n hn n 0 [] (by omega) rfl) (by simp)

/-! ### impl_unitIn -/
-- use LibChar
theorem impl_unitIn.ev0 (n : Nat) (hn : n ≤ 28) : ∀ (post pre : List (List Int)), pre.length + post.length = n → (∀ q ∈ post, q = List.replicate n 0) →
    Ev (fun t => impl_unitIn.l0 t (pre ++ post) (n : Int) (pre.length : Int)) (pre ++ addD 1 pre.length post) := by
  intro post
  induction post with
  | nil =>
    intro pre hi hq
    simp only [List.length_nil] at hi
    refine Ev.succ ?_
    have c1 : ¬ (pre.length : Int) < (n : Int) := by omega
    simp only [impl_unitIn.l0, if_neg c1]
    exact Ev.pure (by simp [addD])
  | cons r post ih =>
    intro pre hi hq
    simp only [List.length_cons] at hi
    have hr := hq r (by simp)
    subst hr
    refine Ev.succ ?_
    have c1 : (pre.length : Int) < (n : Int) := by omega
    have c2 : 0 ≤ (pre.length : Int) := by omega
    have c3 : (pre.length : Int) < ((pre ++ List.replicate n 0 :: post).length : Int) := by simp; omega
    have e1 : rdl (pre ++ List.replicate n 0 :: post) (pre.length : Int) = List.replicate n 0 := rdl_pre _ _ _ _ rfl
    have c4 : (pre.length : Int) < ((List.replicate n (0 : Int)).length : Int) := by simp; omega
    have w1 := Aside0.mk (w64 (x := (pre.length : Int) + 1) (by omega) (by omega))
    simp only [impl_unitIn.l0, rdL1_eq, if_pos c1, if_pos c2, if_pos c3, e1, if_pos c4, w1.out, Int.toNat_natCast]
    rw [set_pre _ _ _ _ _ rfl]
    have := ih (pre ++ [(List.replicate n (0 : Int)).set pre.length 1]) (by simp; omega) (fun q h => hq q (by simp [h]))
    simp only [List.length_append, List.length_cons, List.length_nil, Int.natCast_add, Int.natCast_one, Nat.zero_add] at this
    refine Ev.to this ?_
    simp only [addD, rd_zeros]
    rw [show ((0 : Int) + 1).tmod 10007 = 1 from rfl]
    simp
theorem impl_unitIn.ev (n : Nat) (hn : n ≤ 28) : Ev (fun t => impl_unitIn.f t (n : Int)) (addD 1 0 (List.replicate n (List.replicate n 0))) := by
  simp only [impl_unitIn.f]
  refine Ev.bind (impl_zeroRows.ev n (by omega)) ?_
  exact Ev.to (impl_unitIn.ev0 n hn (List.replicate n (List.replicate n 0)) [] (by simp) (fun q h => (List.mem_replicate.1 h).2)) (by simp)

/-! ### impl_size -/
theorem impl_size.eq (x : Int) (h : -4611686018427387904 ≤ x ∧ x ≤ 4611686018427387904) : impl_size.f x = some (absI x) := by
  have e : wrap64 (-x) = -x := w64 (by omega) (by omega)
  simp only [impl_size.f, e, absI]

/-! ### impl_inField -/
-- use LibChar
theorem impl_inField.eq (x : Int) : impl_inField.f x = some (inF x) := by
  simp only [impl_inField.f, inF_wrap]
  rfl

/-! ### impl_copyOf -/
theorem impl_copyOf.eq (l : List Int) (h : l.length ≤ 1099511627776) : impl_copyOf.f l = some l := by
  simp only [impl_copyOf.f, Option.bind_some, List.nil_append, List.length_nil]
  rw [if_pos (by omega)]

/-! ### impl_inverseModulo -/
-- use LibChar
theorem impl_inverseModulo.ev0 (f : Nat) : ∀ (out sq e : Int), (0 ≤ out ∧ out ≤ 10006) → (0 ≤ sq ∧ sq ≤ 10006) → 0 ≤ e → e < 2 ^ f → e ≤ 100000 →
    Ev (fun k => impl_inverseModulo.l0 k sq 10007 out e) (invGo f out sq e) := by
  induction f with
  | zero =>
    intro out sq e _ _ h0 h1 _
    refine Ev.succ ?_
    have h1' : e < 1 := h1
    have c1 : ¬ e > 0 := by omega
    simp only [impl_inverseModulo.l0, if_neg c1]
    exact Ev.now _
  | succ f ih =>
    intro out sq e ho hs h0 h1 h2
    refine Ev.succ ?_
    obtain ⟨q0, q1, q2⟩ := half_lt h0 h1
    have m1 := fm_bound (a := 0) (by omega) ho hs
    have m2 := fm_bound (a := 0) (by omega) hs hs
    have w1 := Aside0.mk (w64 (x := out * sq) (by omega) (by omega))
    have w2 := Aside0.mk (w64 (x := sq * sq) (by omega) (by omega))
    have w3 := Aside0.mk (w64 (x := Int.tdiv e 2) (by omega) (by omega))
    have c0 : ¬ (10007 : Int) = 0 := by omega
    by_cases c1 : e > 0
    · by_cases c2 : Int.tmod e 2 = 1
      · simp only [impl_inverseModulo.l0, invGo, if_pos c1, if_pos c2, if_neg c0, w1.out, w2.out, w3.out]
        exact ih _ _ _ (tm_range m1.1) (tm_range m2.1) q0 q1 (by omega)
      · simp only [impl_inverseModulo.l0, invGo, if_pos c1, if_neg c2, if_neg c0, w2.out, w3.out]
        exact ih _ _ _ ho (tm_range m2.1) q0 q1 (by omega)
    · simp only [impl_inverseModulo.l0, invGo, if_neg c1]
      exact Ev.now _
theorem impl_inverseModulo.ev (x : Int) (h : 0 ≤ x ∧ x ≤ 10006) : Ev (fun k => impl_inverseModulo.f k x 10007) (invM x) := by
  have w : wrap64 ((10007 : Int) - 2) = 10005 := w64 (by omega) (by omega)
  simp only [impl_inverseModulo.f, w]
  exact impl_inverseModulo.ev0 14 1 x 10005 (by omega) h (by omega) (by decide) (by omega)

/-! ### impl_multiplyIn -/
-- use LibMat
theorem impl_multiplyIn.ev2 (n : Nat) (hn : n ≤ 28) (a b : List (List Int)) (v : Int) (hv : 0 ≤ v ∧ v ≤ 10006) (q r : List Int) (hr : FR n r) (pre post : List (List Int)) (i k : Nat) (hp : pre.length = i) (hk : k < n) (R : List (List Int)) : ∀ (d j : Nat) (row : List Int), j + d = n → FR n row →
    Ev (fun t => impl_multiplyIn.l1 t b (pre ++ axpy v r j d row :: post) (i : Int) a (n : Int) (i : Int) q (n : Int) ((k + 1 : Nat) : Int)) R → Ev (fun t => impl_multiplyIn.l2 t b (pre ++ row :: post) (i : Int) v a (n : Int) (i : Int) q (n : Int) (k : Int) r (n : Int) (j : Int)) R := by
  intro d
  induction d with
  | zero =>
    intro j row hj hrow hR
    refine Ev.succ ?_
    have c1 : ¬ (j : Int) < (n : Int) := by omega
    have w1 := Aside0.mk (w64 (x := (k : Int) + 1) (by omega) (by omega))
    simp only [impl_multiplyIn.l2, if_neg c1, w1.out]
    exact hR
  | succ d ih =>
    intro j row hj hrow hR
    have h1 := hrow.rd j
    have h2 := fm_bound h1 hv (hr.rd j)
    have hrl := hr.1
    have hrowl := hrow.1
    refine Ev.succ ?_
    have c1 : (j : Int) < (n : Int) := by omega
    have c2 : 0 ≤ (j : Int) := by omega
    have c3 : (j : Int) < (r.length : Int) := by omega
    have c4 : 0 ≤ (i : Int) := by omega
    have c5 : (i : Int) < ((pre ++ row :: post).length : Int) := by simp; omega
    have e1 : rdl (pre ++ row :: post) (i : Int) = row := rdl_pre _ _ _ _ hp
    have c6 : (j : Int) < (row.length : Int) := by omega
    have w1 := Aside0.mk (w64 (x := (j : Int) + 1) (by omega) (by omega))
    have w2 := Aside0.mk (w64 (x := v * rd r (j : Int)) (by omega) (by omega))
    have w3 := Aside0.mk (w64 (x := rd row (j : Int) + v * rd r (j : Int)) (by omega) (by omega))
    simp only [impl_multiplyIn.l2, rdL1_eq, if_pos c1, if_pos c2, if_pos c3, if_pos c4, if_pos c5, e1, if_pos c6, w1.out, w2.out, w3.out, Int.toNat_natCast]
    rw [set_pre2 _ _ _ _ _ hp]
    exact ih (j + 1) _ (by omega) (hrow.set j (tm_range (by omega))) hR
theorem impl_multiplyIn.ev1 (n : Nat) (hn : n ≤ 28) (a b : List (List Int)) (ha : FM n a) (hb : FM n b) (pre post : List (List Int)) (i : Nat) (hi : i < n) (hp : pre.length = i) (R : List (List Int)) : ∀ (d k : Nat) (row : List Int), k + d = n → FR n row →
    Ev (fun t => impl_multiplyIn.l0 t b (pre ++ mulRow b (rdl a (i : Int)) n k d row :: post) a (n : Int) ((i + 1 : Nat) : Int)) R → Ev (fun t => impl_multiplyIn.l1 t b (pre ++ row :: post) (i : Int) a (n : Int) (i : Int) (rdl a (i : Int)) (n : Int) (k : Int)) R := by
  have hlb := hb.1
  have hq := ha.rdl i hi
  have hql := hq.1
  intro d
  induction d with
  | zero =>
    intro k row hk hrow hR
    refine Ev.succ ?_
    have c1 : ¬ (k : Int) < (n : Int) := by omega
    have w1 := Aside0.mk (w64 (x := (i : Int) + 1) (by omega) (by omega))
    simp only [impl_multiplyIn.l1, if_neg c1, w1.out]
    exact hR
  | succ d ih =>
    intro k row hk hrow hR
    have hr := hb.rdl k (by omega)
    have hrl := hr.1
    refine Ev.succ ?_
    have c1 : (k : Int) < (n : Int) := by omega
    have c2 : 0 ≤ (k : Int) := by omega
    have c3 : (k : Int) < ((rdl a (i : Int)).length : Int) := by omega
    have c4 : (k : Int) < (b.length : Int) := by omega
    have w1 := Aside0.mk (w64 (x := (k : Int) + 1) (by omega) (by omega))
    by_cases hv : rd (rdl a (i : Int)) (k : Int) = 0
    · simp only [impl_multiplyIn.l1, rdL1_eq, if_pos c1, if_pos c2, if_pos c3, if_pos hv, w1.out]
      simp only [mulRow, if_pos hv] at hR
      exact ih (k + 1) row (by omega) hrow hR
    · simp only [impl_multiplyIn.l1, rdL1_eq, if_pos c1, if_pos c2, if_pos c3, if_neg hv, if_pos c4, hrl]
      simp only [mulRow, if_neg hv] at hR
      exact impl_multiplyIn.ev2 n hn a b _ (hq.rd k) _ _ hr pre post i k hp (by omega) R n 0 row (by omega) hrow (ih (k + 1) _ (by omega) (axpy_FR (hq.rd k) hr n 0 row hrow) hR)
theorem impl_multiplyIn.ev0 (n : Nat) (hn : n ≤ 28) (a b : List (List Int)) (ha : FM n a) (hb : FM n b) : ∀ (d i : Nat) (pre : List (List Int)), i + d = n → pre.length = i →
    Ev (fun t => impl_multiplyIn.l0 t b (pre ++ List.replicate d (List.replicate n 0)) a (n : Int) (i : Int)) (pre ++ timesM n (a.drop i) b) := by
  have hla := ha.1
  intro d
  induction d with
  | zero =>
    intro i pre hi hp
    refine Ev.succ ?_
    have c1 : ¬ (i : Int) < (n : Int) := by omega
    simp only [impl_multiplyIn.l0, if_neg c1]
    exact Ev.pure (by rw [List.drop_of_length_le (by omega)]; simp [timesM])
  | succ d ih =>
    intro i pre hi hp
    have hq := ha.rdl i (by omega)
    have hql := hq.1
    refine Ev.succ ?_
    have c1 : (i : Int) < (n : Int) := by omega
    have c2 : 0 ≤ (i : Int) := by omega
    have c3 : (i : Int) < (a.length : Int) := by omega
    simp only [impl_multiplyIn.l0, rdL1_eq, if_pos c1, if_pos c2, if_pos c3, hql]
    rw [List.replicate_succ]
    refine impl_multiplyIn.ev1 n hn a b ha hb pre _ i (by omega) hp _ n 0 _ (by omega) (FR.zeros n) ?_
    have := ih (i + 1) (pre ++ [mulRow b (rdl a (i : Int)) n 0 n (List.replicate n 0)]) (by omega) (by simp; omega)
    rw [drop_rdl a i (by omega)]
    simpa [timesM] using this
theorem impl_multiplyIn.ev (n : Nat) (hn : n ≤ 28) (a b : List (List Int)) (ha : FM n a) (hb : FM n b) : Ev (fun t => impl_multiplyIn.f t a b) (timesM n a b) := by
  have hla := ha.1
  simp only [impl_multiplyIn.f]
  rw [hla]
  refine Ev.bind (impl_zeroRows.ev n (by omega)) ?_
  exact Ev.to (impl_multiplyIn.ev0 n hn a b ha hb n 0 [] (by omega) rfl) (by simp)

/-! ### laws_eqInt64S -/
theorem laws_eqInt64S.ev0 (l m : List Int) (hb : l.length ≤ 4611686018427387904) (hlm : l.length = m.length) : ∀ (d i : Nat), i + d = l.length →
    Ev (fun k => laws_eqInt64S.l0 k l m (i : Int)) (decide (l.drop i = m.drop i)) := by
  intro d
  induction d with
  | zero =>
    intro i hi
    refine Ev.succ ?_
    simp (disch := omega) only [laws_eqInt64S.l0, if_neg]
    exact Ev.pure (by rw [List.drop_of_length_le (by omega), List.drop_of_length_le (by omega)]; simp)
  | succ d ih =>
    intro i hi
    refine Ev.succ ?_
    simp (disch := omega) only [laws_eqInt64S.l0, if_pos, w64]
    rw [drop_rd l i (by omega), drop_rd m i (by omega)]
    by_cases h : rd l i = rd m i
    · simp only [if_pos h]
      refine Ev.to (ih (i + 1) (by omega)) (by simp [h])
    · simp only [if_neg h]
      exact Ev.pure (by simp [h])
theorem laws_eqInt64S.ev (l m : List Int) (hb : l.length ≤ 4611686018427387904) : Ev (fun k => laws_eqInt64S.f k l m) (decide (l = m)) := by
  by_cases h : l.length = m.length
  · simp (disch := omega) only [laws_eqInt64S.f, if_pos]
    exact Ev.to (laws_eqInt64S.ev0 l m hb h l.length 0 (by omega)) (by simp)
  · simp (disch := omega) only [laws_eqInt64S.f, if_neg]
    exact Ev.pure (by simp; intro e; exact h (by rw [e]))

/-! ### laws_eqInt64SS -/
theorem laws_eqInt64SS.ev0 (l : List (List Int)) (hb : l.length ≤ 4611686018427387904) (hr : ∀ q ∈ l, q.length ≤ 4611686018427387904) : ∀ (d i : Nat), i + d = l.length →
    Ev (fun k => laws_eqInt64SS.l0 k l l (i : Int)) true := by
  intro d
  induction d with
  | zero =>
    intro i hi
    refine Ev.succ ?_
    simp (disch := omega) only [laws_eqInt64SS.l0, if_neg]
    exact Ev.now _
  | succ d ih =>
    intro i hi
    refine Ev.succ ?_
    simp (disch := omega) only [laws_eqInt64SS.l0, if_pos, w64, rdL1_eq]
    refine Ev.bind (laws_eqInt64S.ev _ _ (hr _ (rdl_mem l i (by omega)))) ?_
    simp only [decide_true, if_true]
    exact ih (i + 1) (by omega)
theorem laws_eqInt64SS.refl (l : List (List Int)) (hb : l.length ≤ 4611686018427387904) (hr : ∀ q ∈ l, q.length ≤ 4611686018427387904) : Ev (fun k => laws_eqInt64SS.f k l l) true := by
  simp only [laws_eqInt64SS.f, if_true]
  exact laws_eqInt64SS.ev0 l hb hr l.length 0 (by omega)

/-! ### laws_eqBraid -/
theorem laws_eqBraid.ev (n m : Int) (l s : List Int) (hb : l.length ≤ 4611686018427387904) : Ev (fun k => laws_eqBraid.f k n l m s) (decide (n = m) && decide (l = s)) := by
  simp only [laws_eqBraid.f]
  by_cases h : n = m
  · simp only [if_pos h]
    refine Ev.bind (laws_eqInt64S.ev l s hb) ?_
    by_cases h' : l = s <;> simp [h, h'] <;> exact Ev.now _
  · simp only [if_neg h]
    exact Ev.pure (by simp [h])

/-! ### laws_markInt64S -/
theorem laws_markInt64S.ev0 (n : Nat) (hb : n ≤ 4611686018427387904) : ∀ (d i : Nat) (acc : List Int) (x : Int), i + d = n → acc.length = n → -4611686018427387904 ≤ x → x + d ≤ 4611686018427387904 →
    Ev (fun k => laws_markInt64S.l0 k acc x (i : Int)) (x + d, acc.take i ++ iota x d) := by
  intro d
  induction d with
  | zero =>
    intro i acc x hi ha h0 h1
    refine Ev.succ ?_
    simp (disch := omega) only [laws_markInt64S.l0, if_neg]
    exact Ev.pure (by rw [List.take_of_length_le (by omega)]; simp [iota])
  | succ d ih =>
    intro i acc x hi ha h0 h1
    refine Ev.succ ?_
    simp (disch := omega) only [laws_markInt64S.l0, if_pos, w64]
    refine Ev.to (ih (i + 1) (acc.set i x) (x + 1) (by omega) (by simpa using ha) (by omega) (by omega)) ?_
    rw [take_set_succ _ _ _ (by omega), List.append_assoc]
    exact Prod.ext (by simp; omega) rfl
theorem laws_markInt64S.ev (l : List Int) (x : Int) (h0 : 0 ≤ x) (h1 : x + l.length ≤ 4611686018427387904) : Ev (fun k => laws_markInt64S.f k l x) (x + l.length, iota x l.length) := by
  simp only [laws_markInt64S.f]
  exact Ev.to (laws_markInt64S.ev0 l.length (by omega) l.length 0 l x (by omega) rfl (by omega) h1) (by simp)

/-! ### laws_markBraid -/
theorem laws_markBraid.ev (n : Int) (l : List Int) (x : Int) (h0 : 0 ≤ x) (h1 : x + l.length ≤ 4611686018427387904) : Ev (fun k => laws_markBraid.f k n l x) (x + l.length, iota x l.length) := by
  simp only [laws_markBraid.f]
  exact Ev.bind (laws_markInt64S.ev l x h0 h1) (Ev.now _)

/-! ### laws_heldInt64S -/
theorem laws_heldInt64S.ev0 (x0 : Int) (n : Nat) (h0 : -4611686018427387904 ≤ x0) (hb : x0 + n ≤ 4611686018427387904) (hn : n ≤ 4611686018427387904) : ∀ (d i : Nat), i + d = n →
    Ev (fun k => laws_heldInt64S.l0 k (iota x0 n) (x0 + i) (i : Int)) (x0 + n) := by
  intro d
  have hl := iota_length x0 n
  induction d with
  | zero =>
    intro i hi
    refine Ev.succ ?_
    simp (disch := omega) only [laws_heldInt64S.l0, if_neg]
    exact Ev.pure (by omega)
  | succ d ih =>
    intro i hi
    refine Ev.succ ?_
    have e := rd_iota n i x0 (by omega)
    simp (disch := omega) only [laws_heldInt64S.l0, if_pos, w64]
    refine Ev.to (Ev.congr (fun k => ?_) (ih (i + 1) (by omega))) rfl
    congr 1
    omega
theorem laws_heldInt64S.ev (x : Int) (n : Nat) (h0 : -4611686018427387904 ≤ x) (h1 : x + n ≤ 4611686018427387904) (hn : n ≤ 4611686018427387904) : Ev (fun k => laws_heldInt64S.f k (iota x n) x) (x + n) := by
  simp only [laws_heldInt64S.f]
  refine Ev.congr (fun k => ?_) (laws_heldInt64S.ev0 x n h0 h1 hn n 0 (by omega))
  simp

/-! ### laws_heldInt64SS -/
-- use LibRows
theorem laws_heldInt64SS.ev0 (x0 : Int) (l : List (List Int)) (hl : l.length ≤ 1048576) : ∀ (d i : Nat) (x : Int), i + d = l.length → 0 ≤ x → x + total (l.drop i) ≤ 4611686018427387904 → (iotaSS x0 l).drop i = iotaSS x (l.drop i) →
    Ev (fun t => laws_heldInt64SS.l0 t (iotaSS x0 l) x (i : Int)) (x + total (l.drop i)) := by
  have hll := iotaSS_length x0 l
  intro d
  induction d with
  | zero =>
    intro i x hi h0 h1 he
    refine Ev.succ ?_
    have c1 : ¬ (i : Int) < ((iotaSS x0 l).length : Int) := by omega
    simp only [laws_heldInt64SS.l0, if_neg c1]
    exact Ev.pure (by rw [List.drop_of_length_le (by omega)]; simp [total])
  | succ d ih =>
    intro i x hi h0 h1 he
    refine Ev.succ ?_
    have c1 : (i : Int) < ((iotaSS x0 l).length : Int) := by omega
    have c2 : 0 ≤ (i : Int) := by omega
    rw [drop_rdl l i (by omega)] at h1 he ⊢
    rw [drop_rdl (iotaSS x0 l) i (by omega)] at he
    simp only [total, iotaSS, List.cons.injEq] at h1 he ⊢
    have w1 := Aside0.mk (w64 (x := (i : Int) + 1) (by omega) (by omega))
    simp only [laws_heldInt64SS.l0, if_pos c1, if_pos c2, rdL1_eq, he.1]
    refine Ev.bind (laws_heldInt64S.ev x _ (by omega) (by omega) (by omega)) ?_
    have c3 : ¬ (x + ((rdl l (i : Int)).length : Int) < 0) := by omega
    simp only [if_neg c3, w1.out]
    exact Ev.to (ih (i + 1) _ (by omega) (by omega) (by omega) he.2) (by omega)
theorem laws_heldInt64SS.ev (x : Int) (l : List (List Int)) (hl : l.length ≤ 1048576) (h0 : 0 ≤ x) (h1 : x + total l ≤ 4611686018427387904) : Ev (fun t => laws_heldInt64SS.f t (iotaSS x l) x) (x + total l) := by
  simp only [laws_heldInt64SS.f]
  exact Ev.to (laws_heldInt64SS.ev0 x l hl l.length 0 x (by omega) h0 (by simpa using h1) (by simp)) (by simp)

-- says For all braids and numbers the program's BurauModulo returns what the reference's returns, keeps its argument and shares no memory; no conditions.
-- row braid int
-- hand laws_markInt64SS
-- use LibBu
open Go.Proofs.Ytifmdgffimckgaa.LibMx in
theorem spec_unit1 (n : Nat) (hn : n ≤ 28) : ∀ (d i : Nat) (acc : List (List Int)), i + d = n → acc.length = i →
    Ev (fun t => spec_l09Unit.l0 t (n : Int) 1 acc (i : Int)) (acc ++ addD 1 i (List.replicate d (List.replicate n 0))) := by
  intro d
  induction d with
  | zero =>
    intro i acc hi ha
    refine Ev.succ ?_
    have c1 : ¬ (i : Int) < (n : Int) := by omega
    simp only [spec_l09Unit.l0, if_neg c1]
    exact Ev.pure (by simp [addD])
  | succ d ih =>
    intro i acc hi ha
    refine Ev.succ ?_
    have c1 : (i : Int) < (n : Int) := by omega
    have c2 : 0 ≤ (n : Int) := by omega
    have c3 : n ≤ 35184372088832 := by omega
    have c4 : acc.length < 5864062014805 := by omega
    have c5 : 0 ≤ (i : Int) := by omega
    have c6 : (i : Int) < ((List.replicate n (0 : Int)).length : Int) := by simp; omega
    have w1 := Aside0.mk (w64 (x := (i : Int) + 1) (by omega) (by omega))
    simp only [spec_l09Unit.l0, if_pos c1, if_pos c2, if_pos c3, if_pos c4, w1.out, Int.toNat_natCast, Option.bind_some, if_pos c5, if_pos c6]
    refine Ev.to (ih (i + 1) _ (by omega) (by simp; omega)) ?_
    rw [List.replicate_succ]
    simp only [addD, rd_zeros]
    rw [show ((0 : Int) + 1).tmod 10007 = 1 from rfl]
    simp
open Go.Proofs.Ytifmdgffimckgaa.LibMx in
theorem spec_unit1.ev (n : Nat) (hn : n ≤ 28) : Ev (fun t => spec_l09Unit.f t (n : Int) 1) (inj.unitM n) := by
  simp only [spec_l09Unit.f]
  exact Ev.to (spec_unit1 n hn n 0 [] (by omega) rfl) (by simp)
open Go.Proofs.Ytifmdgffimckgaa.LibMx in
/-- Both ways to the inverse. -/
theorem inv_full (m : Nat) (h1 : 1 ≤ m) (h2 : m ≤ 28) (B : List (List Int)) (hf : FM m B) (hi : inj.Inj m B) : ∃ (Z : List (List Int)) (d : Int), Ev (fun k => impl_inverseIn.f k B) (Z, d) ∧ Ev (fun k => spec_l09Solve.f k B) (d, Z) ∧ FM m Z := by
  have hS := iv2.FM_Sq hf
  have hU := iv2.unit_Sq m
  have hl := hf.1
  have hc : iv.Sq B.length B ∧ 1 ≤ B.length ∧ B.length ≤ 28 := by rw [hl]; exact ⟨hS, h1, h2⟩
  obtain ⟨Z, d, e1, e2, z1, z2⟩ := inj.full (fun k x => impl_inverseModulo.f k x 10007) (fun k x => spec_l09Inverse.f k x) m (fun x hx => impl_inverseModulo.ev x hx) (fun x hx => spec_l09Inverse.ev x hx) m 0 B (inj.unitM m) 1 hS hU (iv2.FM_FF hf) (inj.unit_FF m) hi (fun i j _ hj => by omega) (by omega)
  refine ⟨Z, d, ?_, ?_, inj.FM_of z1 z2⟩
  · simp only [impl_inverseIn.f, if_pos hc]
    rw [hl]
    refine Ev.bind (impl_unitIn.ev m h2) ?_
    simp only [if_pos hU]
    exact e1
  · simp only [spec_l09Solve.f, if_pos hc, iv2.start_glue hS]
    rw [hl]
    exact e2
open Go.Proofs.Ytifmdgffimckgaa.LibMx Go.Proofs.Ytifmdgffimckgaa.LibPi in
/-- The products of the letters' matrices, both ways. -/
theorem pi_both (m : Nat) (h1 : 1 ≤ m) (h2 : m ≤ 28) (sb ib : Nat → Int → Option (List (List Int))) : ∀ (l : List Int), (∀ z ∈ l, ∃ B, Ev (fun k => sb k (pi.ks z)) B ∧ Ev (fun k => ib k (pi.ks z)) B ∧ FM m B ∧ inj.Inj m B) → ∀ (O : List (List Int)), FM m O →
    ∃ r, Ev (fun k => pi.go (pi.own (sb k) (fun B => (spec_l09Solve.f k B).bind fun x => some x.2)) (fun A B => spec_l09Times.f k A B) l O) r ∧ Ev (fun k => pi.go (pi.ownG m (ib k) (pi_inv k)) (fun A B => impl_multiplyIn.f k A B) l O) r ∧ FM m r
  | [], _, O, hO => by
    refine ⟨O, ?_, ?_, hO⟩
    · simp only [pi.go]; exact Ev.now _
    · simp only [pi.go]; exact Ev.now _
  | z :: l, hl, O, hO => by
    obtain ⟨B, s1, i1, hB, hI⟩ := hl z (by simp)
    have letter : ∃ A, Ev (fun k => pi.own (sb k) (fun B => (spec_l09Solve.f k B).bind fun x => some x.2) z) A ∧ Ev (fun k => pi.own (ib k) (pi_inv k) z) A ∧ FM m A := by
      by_cases hz : z < 0
      · obtain ⟨Z, d, f1, f2, hZ⟩ := inv_full m h1 h2 B hB hI
        refine ⟨Z, ?_, ?_, hZ⟩
        · simp only [pi.own]
          refine Ev.bind s1 ?_
          simp only [if_pos hz]
          refine Ev.bind f2 ?_
          exact Ev.now _
        · simp only [pi.own, pi_inv]
          refine Ev.bind i1 ?_
          simp only [if_pos hz]
          refine Ev.bind f1 ?_
          exact Ev.now _
      · refine ⟨B, ?_, ?_, hB⟩
        · simp only [pi.own]
          refine Ev.bind s1 ?_
          simp only [if_neg hz]
          exact Ev.now _
        · simp only [pi.own, pi_inv]
          refine Ev.bind i1 ?_
          simp only [if_neg hz]
          exact Ev.now _
    obtain ⟨A, a1, a2, hA⟩ := letter
    obtain ⟨r, r1, r2, hr⟩ := pi_both m h1 h2 sb ib l (fun y hy => hl y (by simp [hy])) (timesM m O A) (timesM_FM hO hA)
    refine ⟨r, ?_, ?_, hr⟩
    · simp only [pi.go]
      refine Ev.bind a1 ?_
      refine Ev.bind (spec_l09Times.ev m h2 O A hO hA) ?_
      exact r1
    · simp only [pi.go, pi.ownG]
      refine Ev.bind (Ev.bind a2 (by simp only [if_pos hA.1]; exact Ev.now _)) ?_
      refine Ev.bind (impl_multiplyIn.ev m h2 O A hO hA) ?_
      exact r2
theorem ks_of {n z : Int} (hn : n ≤ 8) (h : z ≠ 0 ∧ 1 - n ≤ z ∧ z ≤ n - 1) : 1 ≤ Go.Proofs.Ytifmdgffimckgaa.LibPi.pi.ks z ∧ Go.Proofs.Ytifmdgffimckgaa.LibPi.pi.ks z < n := by
  unfold Go.Proofs.Ytifmdgffimckgaa.LibPi.pi.ks mx
  rw [w64 (x := -z) (by omega) (by omega)]
  split <;> omega

open Go.Proofs.Ytifmdgffimckgaa.LibMx Go.Proofs.Ytifmdgffimckgaa.LibPi in
theorem burau_law (n : Int) (l : List Int) (t : Int) (hf : Fits l) : ∃ (g : List (List Int)) (c : Int), Ev (fun k => spec_BurauModulo.f k n l t) (g, c) ∧ Ev (fun k => impl_BurauModulo.f k n l t) (g, c) ∧ g.length ≤ 8 ∧ ∀ q ∈ g, q.length ≤ 8 := by
  have num : Ev (fun k => spec_l09Numbers.f k n l 1 [t]) (if isBraidB n l = true then (if inB t 1 10006 = true then 0 else 2) else 1) := by
    simp only [spec_l09Numbers.f]
    refine Ev.bind (spec_l01Is.ev n l hf) ?_
    by_cases hb : isBraidB n l = true
    · obtain ⟨hn, _⟩ := isBraidB_iff.1 hb
      simp only [if_pos hb]
      refine Ev.succ ?_
      have c1 : (0 : Int) < (([t] : List Int).length : Int) := by simp
      have c2 : (0 : Int) ≤ 0 := by omega
      have e1 : rd [t] 0 = t := rfl
      have e2 : wrap64 (0 + 1) = 1 := by rw [w64 (by omega) (by omega)]; rfl
      simp only [spec_l09Numbers.l0, if_pos c1, if_pos c2, e1, e2, spec_l01In.eq, Option.bind_some]
      by_cases ht : inB t 1 10006 = true
      · simp only [if_pos ht]
        refine Ev.succ ?_
        have c3 : ¬ (1 : Int) < (([t] : List Int).length : Int) := by simp
        have c4 : ¬ n < 1 := by omega
        simp only [spec_l09Numbers.l0, if_neg c3, if_neg c4]
        exact Ev.now _
      · simp only [if_neg ht]
        exact Ev.now _
    · simp only [if_neg hb]
      exact Ev.now _
  by_cases hb : isBraidB n l = true
  · simp only [if_pos hb] at num
    by_cases ht : inB t 1 10006 = true
    · simp only [if_pos ht] at num
      obtain ⟨hn, hl, hx⟩ := isBraidB_iff.1 hb
      have ht2 := inB_iff.1 ht
      obtain ⟨m, hm⟩ : ∃ m : Nat, n = m := ⟨n.toNat, by omega⟩
      subst hm
      have hU := iv2.unit_Sq m
      have hks : ∀ z ∈ l, 1 ≤ pi.ks z ∧ pi.ks z < m := fun z hz => ks_of hn.2 (hx z hz)
      have hUF : FM m (inj.unitM m) := inj.FM_of hU (inj.unit_FF m)
      obtain ⟨r, r1, r2, hr⟩ := pi_both m (by omega) (by omega) (fun k z => spec_l09Burau.base k (m : Int) t z) (fun k z => impl_BurauModulo.base k (m : Int) t z) l (fun z hz => by
        have h0 := hks z hz
        refine ⟨pi.bs t (pi.ks z) (inj.unitM m), ?_, ?_, inj.bs_FM t _ ht2 h0.1 h0.2, inj.bs_Inj t _ ht2 h0.1 h0.2⟩
        · simp only [spec_l09Burau.base, Int.toNat_natCast]
          refine Ev.bind (spec_unit1.ev m (by omega)) ?_
          simp only [if_pos hU]
          exact Ev.now _
        · have hc : 1 ≤ pi.ks z ∧ pi.ks z < (m : Int) ∧ (m : Int) ≤ 8 := ⟨h0.1, h0.2, hn.2⟩
          simp only [impl_BurauModulo.base, if_pos hc, Int.toNat_natCast]
          refine Ev.bind (impl_unitIn.ev m (by omega)) ?_
          simp only [if_pos hU]
          exact Ev.now _) (inj.unitM m) hUF
      refine ⟨r, 0, ?_, ?_, by have := hr.1; omega, fun q hq => by have := (hr.2 q hq).1; omega⟩
      · simp only [spec_BurauModulo.f]
        refine Ev.bind num ?_
        simp only [if_true]
        have hc : 1 ≤ (m : Int) ∧ (m : Int) ≤ 8 ∧ pi.good m l := ⟨hn.1, hn.2, by omega, fun z hz => ⟨hks z hz, by have := hx z hz; omega, by have := hx z hz; omega⟩⟩
        have hb2 : Ev (fun k => spec_l09Burau.f k (m : Int) l t) r := by
          simp only [spec_l09Burau.f, if_pos hc]
          refine Ev.bind (spec_unit1.ev m (by omega)) ?_
          exact r1
        refine Ev.bind hb2 ?_
        exact Ev.now _
      · simp only [impl_BurauModulo.f]
        refine Ev.bind (impl_IsBraid.ev m l) ?_
        simp only [if_pos hb]
        simp only [impl_isUnit.f, impl_within.eq, Option.bind_some, if_pos ht]
        have hc : 1 ≤ (m : Int) ∧ (m : Int) ≤ 28 ∧ pi.lim l := ⟨hn.1, by omega, by omega, fun z hz => by have := hx z hz; omega⟩
        have hb2 : Ev (fun k => pi_prod k (impl_BurauModulo.base k (m : Int) t) (m : Int) l) r := by
          simp only [pi_prod, if_pos hc, Int.toNat_natCast]
          refine Ev.bind (impl_unitIn.ev m (by omega)) ?_
          exact r2
        refine Ev.bind hb2 ?_
        exact Ev.now _
    · simp only [if_neg ht] at num
      refine ⟨[], 2, ?_, ?_, by simp, by simp⟩
      · simp only [spec_BurauModulo.f]
        refine Ev.bind num ?_
        exact Ev.now _
      · simp only [impl_BurauModulo.f]
        refine Ev.bind (impl_IsBraid.ev n l) ?_
        simp only [if_pos hb]
        simp only [impl_isUnit.f, impl_within.eq, Option.bind_some, if_neg ht]
        exact Ev.now _
  · simp only [if_neg hb] at num
    refine ⟨[], 1, ?_, ?_, by simp, by simp⟩
    · simp only [spec_BurauModulo.f]
      refine Ev.bind num ?_
      exact Ev.now _
    · simp only [impl_BurauModulo.f]
      refine Ev.bind (impl_IsBraid.ev n l) ?_
      simp only [if_neg hb]
      exact Ev.now _


end Go.Proofs.Ytifmdgffimckgaa.PureFnExactBurauModulo
