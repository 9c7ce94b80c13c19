/- For all rows of numbers the program's TraceIn returns what the reference's returns and leaves its argument alone; no conditions. -/
import Derived.Test.YtijafgikehlomaaMFnExactTraceInx3
import Derived.Test.YtijafgikehlomaaLib
set_option linter.unusedVariables false
set_option linter.unusedSimpArgs false
set_option maxRecDepth 10000
set_option maxHeartbeats 4000000
namespace Go.Proofs.Ytijafgikehlomaa.PureFnExactTraceIn
open Go.RowKit Go.Proofs.Ytijafgikehlomaa.MFnExactTraceIn Go.Proofs.YtijafgikehlomaaW.PrintWords Go.Proofs.Ytijafgikehlomaa.Lib

theorem rdL1_eq (xs : List (List Int)) (i : Int) : rd_L1 xs i = rdl xs i := by
  have h : rd_L1 xs i = xs.getD i.toNat [] := by unfold rd_L1; rfl
  rw [h, rdl]

/-! ### laws_szInt64S -/
theorem laws_szInt64S.eq (l : List Int) (x : Int) (h0 : 0 ≤ x) (h1 : x ≤ 1048576) (hl : l.length ≤ maxLen) : laws_szInt64S.f l x = some (if x - l.length < 0 then -1 else x - l.length) := by
  unfold maxLen at hl
  simp (disch := omega) only [laws_szInt64S.f, w64]
  split <;> rfl

/-! ### laws_szInt64SS -/
theorem laws_szInt64SS.ev0 (l : List (List Int)) (hl : l.length ≤ 1048576) (hr : ∀ q ∈ l, q.length ≤ maxLen) : ∀ (d i : Nat) (x : Int), i + d = l.length → 0 ≤ x → x ≤ 1048576 →
    ∃ r, Ev (fun k => laws_szInt64SS.l0 k l x (i : Int)) r ∧ (r < 0 ∨ ((∀ q ∈ l.drop i, q.length ≤ 1048576) ∧ 0 ≤ r ∧ r ≤ x)) := by
  intro d
  induction d with
  | zero =>
    intro i x hi h0 h1
    refine ⟨x, Ev.succ ?_, .inr ⟨by rw [List.drop_of_length_le (by omega)]; simp, h0, Int.le_refl _⟩⟩
    simp (disch := omega) only [laws_szInt64SS.l0, if_neg]
    exact Ev.now _
  | succ d ih =>
    intro i x hi h0 h1
    have hq := hr _ (rdl_mem l i (by omega))
    have e := laws_szInt64S.eq (rdl l (i : Int)) x h0 h1 hq
    by_cases hz : x - (rdl l (i : Int)).length < 0
    · rw [if_pos hz] at e
      refine ⟨-1, Ev.succ ?_, .inl (by omega)⟩
      simp (disch := omega) only [laws_szInt64SS.l0, if_pos, rdL1_eq, e, Option.bind_some]
      exact Ev.now _
    · rw [if_neg hz] at e
      obtain ⟨r, hr1, hr2⟩ := ih (i + 1) (x - (rdl l (i : Int)).length) (by omega) (by omega) (by omega)
      refine ⟨r, Ev.succ ?_, ?_⟩
      · simp (disch := omega) only [laws_szInt64SS.l0, if_pos, rdL1_eq, e, Option.bind_some, if_neg, w64]
        exact hr1
      · rcases hr2 with hr2 | ⟨h2, h3, h4⟩
        · exact .inl hr2
        · refine .inr ⟨fun q hq => ?_, h3, by omega⟩
          rw [drop_rdl l i (by omega)] at hq
          rcases List.mem_cons.1 hq with rfl | hq
          · omega
          · exact h2 q hq
theorem laws_szInt64SS.ev (l : List (List Int)) (x : Int) (h0 : 0 ≤ x) (h1 : x ≤ 1048576) (hl : l.length ≤ maxLen) (hr : ∀ q ∈ l, q.length ≤ maxLen) :
    ∃ r, Ev (fun k => laws_szInt64SS.f k l x) r ∧ (r < 0 ∨ (l.length ≤ 1048576 ∧ (∀ q ∈ l, q.length ≤ 1048576) ∧ 0 ≤ r ∧ r ≤ x)) := by
  unfold maxLen at hl
  have hw : wrap64 (x - (l.length : Int)) = x - l.length := w64 (by omega) (by omega)
  simp only [laws_szInt64SS.f, hw]
  by_cases hz : x - (l.length : Int) < 0
  · simp only [if_pos hz]
    exact ⟨-1, Ev.now _, .inl (by omega)⟩
  · simp only [if_neg hz]
    obtain ⟨r, hr1, hr2⟩ := laws_szInt64SS.ev0 l (by omega) hr l.length 0 (x - l.length) (by omega) (by omega) (by omega)
    refine ⟨r, hr1, ?_⟩
    rcases hr2 with hr2 | ⟨h2, h3, h4⟩
    · exact .inl hr2
    · exact .inr ⟨by omega, by simpa using h2, h3, by omega⟩

/-! ### laws_toInt64S -/
theorem laws_toInt64S.ev0 (l : List Int) (hb : l.length ≤ 17592186044416) : ∀ (d i : Nat) (acc : List Int), i + d = l.length → acc.length = l.length →
    Ev (fun k => laws_toInt64S.l0 k l acc (i : Int)) (acc.take i ++ l.drop i) := by
  intro d
  induction d with
  | zero =>
    intro i acc hi ha
    refine Ev.succ ?_
    simp (disch := omega) only [laws_toInt64S.l0, if_neg]
    exact Ev.pure (by rw [List.take_of_length_le (by omega), List.drop_of_length_le (by omega), List.append_nil])
  | succ d ih =>
    intro i acc hi ha
    refine Ev.succ ?_
    simp (disch := omega) only [laws_toInt64S.l0, if_pos, w64]
    refine Ev.to (ih (i + 1) (acc.set i (rd l i)) (by omega) (by simpa using ha)) ?_
    rw [take_set_succ _ _ _ (by omega), drop_rd l i (by omega), List.append_assoc]; rfl
theorem laws_toInt64S.ev (l : List Int) (hb : l.length ≤ 17592186044416) : Ev (fun k => laws_toInt64S.f k l) l := by
  simp (disch := omega) only [laws_toInt64S.f, if_pos]
  refine Ev.to (laws_toInt64S.ev0 l hb l.length 0 (List.replicate l.length 0) (by omega) (by simp)) (by simp)

/-! ### laws_toInt64SS -/
theorem laws_toInt64SS.ev0 (l : List (List Int)) (hb : l.length ≤ 1048576) (hr : ∀ q ∈ l, q.length ≤ 1048576) : ∀ (d i : Nat) (acc : List (List Int)), i + d = l.length → acc.length = l.length →
    Ev (fun k => laws_toInt64SS.l0 k l acc (i : Int)) (acc.take i ++ l.drop i) := by
  intro d
  induction d with
  | zero =>
    intro i acc hi ha
    refine Ev.succ ?_
    simp (disch := omega) only [laws_toInt64SS.l0, if_neg]
    exact Ev.pure (by rw [List.take_of_length_le (by omega), List.drop_of_length_le (by omega), List.append_nil])
  | succ d ih =>
    intro i acc hi ha
    refine Ev.succ ?_
    have hq := hr _ (rdl_mem l i (by omega))
    simp (disch := omega) only [laws_toInt64SS.l0, if_pos, w64, rdL1_eq]
    refine Ev.bind (laws_toInt64S.ev (rdl l (i : Int)) (by omega)) ?_
    refine Ev.to (ih (i + 1) (acc.set i (rdl l i)) (by omega) (by simpa using ha)) ?_
    rw [take_set_succ _ _ _ (by omega), drop_rdl l i (by omega), List.append_assoc]; rfl
theorem laws_toInt64SS.ev (l : List (List Int)) (hb : l.length ≤ 1048576) (hr : ∀ q ∈ l, q.length ≤ 1048576) : Ev (fun k => laws_toInt64SS.f k l) l := by
  simp (disch := omega) only [laws_toInt64SS.f, if_pos]
  refine Ev.to (laws_toInt64SS.ev0 l hb hr l.length 0 (List.replicate l.length []) (by omega) (by simp)) (by simp)

/-! ### laws_eqInt64S -/
theorem laws_eqInt64S.ev0 (l m : List Int) (hb : l.length ≤ 4611686018427387904) (hlm : l.length = m.length) : ∀ (d i : Nat), i + d = l.length →
    Ev (fun k => laws_eqInt64S.l0 k l m (i : Int)) (decide (l.drop i = m.drop i)) := by
  intro d
  induction d with
  | zero =>
    intro i hi
    refine Ev.succ ?_
    simp (disch := omega) only [laws_eqInt64S.l0, if_neg]
    exact Ev.pure (by rw [List.drop_of_length_le (by omega), List.drop_of_length_le (by omega)]; simp)
  | succ d ih =>
    intro i hi
    refine Ev.succ ?_
    simp (disch := omega) only [laws_eqInt64S.l0, if_pos, w64]
    rw [drop_rd l i (by omega), drop_rd m i (by omega)]
    by_cases h : rd l i = rd m i
    · simp only [if_pos h]
      refine Ev.to (ih (i + 1) (by omega)) (by simp [h])
    · simp only [if_neg h]
      exact Ev.pure (by simp [h])
theorem laws_eqInt64S.ev (l m : List Int) (hb : l.length ≤ 4611686018427387904) : Ev (fun k => laws_eqInt64S.f k l m) (decide (l = m)) := by
  by_cases h : l.length = m.length
  · simp (disch := omega) only [laws_eqInt64S.f, if_pos]
    exact Ev.to (laws_eqInt64S.ev0 l m hb h l.length 0 (by omega)) (by simp)
  · simp (disch := omega) only [laws_eqInt64S.f, if_neg]
    exact Ev.pure (by simp; intro e; exact h (by rw [e]))

/-! ### laws_eqInt64SS -/
theorem laws_eqInt64SS.ev0 (l : List (List Int)) (hb : l.length ≤ 4611686018427387904) (hr : ∀ q ∈ l, q.length ≤ 4611686018427387904) : ∀ (d i : Nat), i + d = l.length →
    Ev (fun k => laws_eqInt64SS.l0 k l l (i : Int)) true := by
  intro d
  induction d with
  | zero =>
    intro i hi
    refine Ev.succ ?_
    simp (disch := omega) only [laws_eqInt64SS.l0, if_neg]
    exact Ev.now _
  | succ d ih =>
    intro i hi
    refine Ev.succ ?_
    simp (disch := omega) only [laws_eqInt64SS.l0, if_pos, w64, rdL1_eq]
    refine Ev.bind (laws_eqInt64S.ev _ _ (hr _ (rdl_mem l i (by omega)))) ?_
    simp only [decide_true, if_true]
    exact ih (i + 1) (by omega)
theorem laws_eqInt64SS.refl (l : List (List Int)) (hb : l.length ≤ 4611686018427387904) (hr : ∀ q ∈ l, q.length ≤ 4611686018427387904) : Ev (fun k => laws_eqInt64SS.f k l l) true := by
  simp only [laws_eqInt64SS.f, if_true]
  exact laws_eqInt64SS.ev0 l hb hr l.length 0 (by omega)

/-! ### spec_l01In -/
theorem spec_l01In.eq (a lo hi : Int) : spec_l01In.f a lo hi = some (inB a lo hi) := by
  unfold spec_l01In.f inB
  by_cases h : lo ≤ a <;> simp [h]

/-! ### spec_l09Is -/
theorem spec_l09Is.ev0 (l : List (List Int)) (hb : l.length ≤ 28) (hq : ∀ q ∈ l, q.length ≤ 1048576) : ∀ (d i : Nat), i + d = l.length →
    Ev (fun k => spec_l09Is.l0 k l (i : Int)) ((l.drop i).all (rowB l.length)) := by
  intro d
  induction d with
  | zero =>
    intro i hi
    refine Ev.succ ?_
    simp (disch := omega) only [spec_l09Is.l0, if_neg]
    exact Ev.pure (by rw [List.drop_of_length_le (by omega)]; rfl)
  | succ d ih =>
    intro i hi
    refine Ev.succ ?_
    have hqi := hq _ (rdl_mem l i (by omega))
    rw [drop_rdl l i (by omega), List.all_cons]
    have key : ∀ (e j : Nat), j + e = (rdl l (i : Int)).length → Ev (fun k => spec_l09Is.l1 k l (i : Int) (j : Int)) (((rdl l (i : Int)).drop j).all (fun x => inB x 0 10006) && (l.drop (i + 1)).all (rowB l.length)) := by
      intro e
      induction e with
      | zero =>
        intro j hj
        refine Ev.succ ?_
        simp (disch := omega) only [spec_l09Is.l1, if_pos, if_neg, rdL1_eq, w64]
        rw [List.drop_of_length_le (show (rdl l (i : Int)).length ≤ j by omega)]
        exact ih (i + 1) (by omega)
      | succ e ihe =>
        intro j hj
        refine Ev.succ ?_
        simp (disch := omega) only [spec_l09Is.l1, if_pos, rdL1_eq, w64, spec_l01In.eq, Option.bind_some]
        rw [drop_rd _ j (by omega), List.all_cons]
        cases h : inB (rd (rdl l (i : Int)) (j : Int)) 0 10006 with
        | true => simp only [if_true, Bool.true_and]; exact ihe (j + 1) (by omega)
        | false => exact Ev.pure (by simp)
    by_cases hlen : (rdl l (i : Int)).length = l.length
    · have hlen' : ((rdl l (i : Int)).length : Int) = l.length := by omega
      simp (disch := omega) only [spec_l09Is.l0, if_pos, rdL1_eq]
      (try simp only [if_pos hlen'])
      exact Ev.to (key (rdl l (i : Int)).length 0 (by omega)) (by simp [rowB, hlen])
    · have hlen' : ¬ ((rdl l (i : Int)).length : Int) = l.length := by omega
      simp (disch := omega) only [spec_l09Is.l0, if_pos, rdL1_eq]
      (try simp only [if_neg hlen'])
      exact Ev.pure (by simp [rowB, hlen])
theorem spec_l09Is.ev (l : List (List Int)) (hl : l.length ≤ 1048576) (hq : ∀ q ∈ l, q.length ≤ 1048576) : Ev (fun k => spec_l09Is.f k l) (fieldB l) := by
  simp only [spec_l09Is.f]
  unfold fieldB
  by_cases h1 : 1 ≤ l.length
  · have h1' : ¬ ((l.length : Int) < 1) := by omega
    simp only [if_neg h1']
    refine Ev.succ ?_
    by_cases h2 : l.length ≤ 28
    · have h2' : ¬ ((l.length : Int) > 28) := by omega
      simp only [spec_l09Is.j0, h2', decide_false, Bool.false_eq_true, if_false]
      exact Ev.to (spec_l09Is.ev0 l h2 hq l.length 0 (by omega)) (by simp [h1, h2])
    · have h2' : ((l.length : Int) > 28) := by omega
      simp only [spec_l09Is.j0, h2', decide_true, if_true]
      exact Ev.pure (by simp [h2])
  · have h1' : ((l.length : Int) < 1) := by omega
    simp only [if_pos h1']
    refine Ev.succ ?_
    simp only [spec_l09Is.j0, if_true]
    exact Ev.pure (by simp [h1])

/-! ### spec_l09Trace -/
theorem spec_l09Trace.ev0 (l : List (List Int)) (hb : l.length ≤ 28) (hq : ∀ q ∈ l, q.length = l.length ∧ ∀ x ∈ q, 0 ≤ x ∧ x ≤ 10006) : ∀ (d i : Nat) (acc : Int), i + d = l.length → 0 ≤ acc → acc ≤ 10006 * i →
    Ev (fun k => spec_l09Trace.l0 k l acc (i : Int)) ((acc + diag (l.drop i) i).tmod 10007) := by
  intro d
  induction d with
  | zero =>
    intro i acc hi h0 h1
    refine Ev.succ ?_
    simp (disch := omega) only [spec_l09Trace.l0, if_neg]
    exact Ev.pure (by rw [List.drop_of_length_le (by omega)]; simp [diag])
  | succ d ih =>
    intro i acc hi h0 h1
    refine Ev.succ ?_
    obtain ⟨hl, hx⟩ := hq _ (rdl_mem l i (by omega))
    have hr := rd_range hx i
    simp (disch := omega) only [spec_l09Trace.l0, if_pos, rdL1_eq, w64]
    refine Ev.to (ih (i + 1) (acc + rd (rdl l (i : Int)) (i : Int)) (by omega) (by omega) (by omega)) ?_
    rw [drop_rdl l i (by omega), diag]
    congr 1; omega
theorem spec_l09Trace.ev (l : List (List Int)) (h : fieldB l = true) : Ev (fun k => spec_l09Trace.f k l) ((diag l 0).tmod 10007) := by
  obtain ⟨h1, h2, h3⟩ := fieldB_iff.1 h
  simp only [spec_l09Trace.f]
  exact Ev.to (spec_l09Trace.ev0 l h2 h3 l.length 0 0 (by omega) (by omega) (by omega)) (by simp)

/-! ### impl_within -/
theorem impl_within.eq (a lo hi : Int) : impl_within.f a lo hi = some (inB a lo hi) := by
  unfold impl_within.f inB
  by_cases h : lo ≤ a <;> simp [h]

/-! ### impl_IsFieldMatrix -/
theorem impl_IsFieldMatrix.ev0 (l : List (List Int)) (hb : l.length ≤ 28) (hq : ∀ q ∈ l, q.length ≤ 1048576) : ∀ (d i : Nat), i + d = l.length →
    Ev (fun k => impl_IsFieldMatrix.l0 k (l.length : Int) l (l.length : Int) (i : Int)) ((l.drop i).all (rowB l.length)) := by
  intro d
  induction d with
  | zero =>
    intro i hi
    refine Ev.succ ?_
    simp (disch := omega) only [impl_IsFieldMatrix.l0, if_neg]
    exact Ev.pure (by rw [List.drop_of_length_le (by omega)]; rfl)
  | succ d ih =>
    intro i hi
    refine Ev.succ ?_
    have hqi := hq _ (rdl_mem l i (by omega))
    rw [drop_rdl l i (by omega), List.all_cons]
    have key : ∀ (e j : Nat), j + e = (rdl l (i : Int)).length → Ev (fun k => impl_IsFieldMatrix.l1 k (l.length : Int) l (l.length : Int) (i : Int) (rdl l (i : Int)) ((rdl l (i : Int)).length : Int) (j : Int)) (((rdl l (i : Int)).drop j).all (fun x => inB x 0 10006) && (l.drop (i + 1)).all (rowB l.length)) := by
      intro e
      induction e with
      | zero =>
        intro j hj
        refine Ev.succ ?_
        simp (disch := omega) only [impl_IsFieldMatrix.l1, if_pos, if_neg, w64]
        rw [List.drop_of_length_le (show (rdl l (i : Int)).length ≤ j by omega)]
        exact ih (i + 1) (by omega)
      | succ e ihe =>
        intro j hj
        refine Ev.succ ?_
        simp (disch := omega) only [impl_IsFieldMatrix.l1, if_pos, w64, impl_within.eq, Option.bind_some]
        rw [drop_rd _ j (by omega), List.all_cons]
        cases h : inB (rd (rdl l (i : Int)) (j : Int)) 0 10006 with
        | true => simp only [if_true, Bool.true_and]; exact ihe (j + 1) (by omega)
        | false => exact Ev.pure (by simp)
    by_cases hlen : (rdl l (i : Int)).length = l.length
    · have hlen' : ((rdl l (i : Int)).length : Int) = l.length := by omega
      simp (disch := omega) only [impl_IsFieldMatrix.l0, if_pos, rdL1_eq]
      (try simp only [if_pos hlen'])
      exact Ev.to (key (rdl l (i : Int)).length 0 (by omega)) (by simp [rowB, hlen])
    · have hlen' : ¬ ((rdl l (i : Int)).length : Int) = l.length := by omega
      simp (disch := omega) only [impl_IsFieldMatrix.l0, if_pos, rdL1_eq]
      (try simp only [if_neg hlen'])
      exact Ev.pure (by simp [rowB, hlen])
theorem impl_IsFieldMatrix.ev (l : List (List Int)) (hl : l.length ≤ 1048576) (hq : ∀ q ∈ l, q.length ≤ 1048576) : Ev (fun k => impl_IsFieldMatrix.f k l) (fieldB l) := by
  simp only [impl_IsFieldMatrix.f]
  unfold fieldB
  by_cases h1 : 1 ≤ l.length
  · have h1' : ¬ ((l.length : Int) < 1) := by omega
    simp only [if_neg h1']
    refine Ev.succ ?_
    by_cases h2 : l.length ≤ 28
    · have h2' : ¬ ((l.length : Int) > 28) := by omega
      simp only [impl_IsFieldMatrix.j0, h2', decide_false, Bool.false_eq_true, if_false]
      exact Ev.to (impl_IsFieldMatrix.ev0 l h2 hq l.length 0 (by omega)) (by simp [h1, h2])
    · have h2' : ((l.length : Int) > 28) := by omega
      simp only [impl_IsFieldMatrix.j0, h2', decide_true, if_true]
      exact Ev.pure (by simp [h2])
  · have h1' : ((l.length : Int) < 1) := by omega
    simp only [if_pos h1']
    refine Ev.succ ?_
    simp only [impl_IsFieldMatrix.j0, if_true]
    exact Ev.pure (by simp [h1])

/-! ### impl_traceIn -/
theorem impl_traceIn.ev0 (l : List (List Int)) (hb : l.length ≤ 28) (hq : ∀ q ∈ l, q.length = l.length ∧ ∀ x ∈ q, 0 ≤ x ∧ x ≤ 10006) : ∀ (d i : Nat) (acc : Int), i + d = l.length → 0 ≤ acc → acc ≤ 10006 * i →
    Ev (fun k => impl_traceIn.l0 k acc l (l.length : Int) (i : Int)) ((acc + diag (l.drop i) i).tmod 10007) := by
  intro d
  induction d with
  | zero =>
    intro i acc hi h0 h1
    refine Ev.succ ?_
    simp (disch := omega) only [impl_traceIn.l0, if_neg]
    exact Ev.pure (by rw [List.drop_of_length_le (by omega)]; simp [diag])
  | succ d ih =>
    intro i acc hi h0 h1
    refine Ev.succ ?_
    obtain ⟨hl, hx⟩ := hq _ (rdl_mem l i (by omega))
    have hr := rd_range hx i
    simp (disch := omega) only [impl_traceIn.l0, if_pos, rdL1_eq, w64]
    refine Ev.to (ih (i + 1) (acc + rd (rdl l (i : Int)) (i : Int)) (by omega) (by omega) (by omega)) ?_
    rw [drop_rdl l i (by omega), diag]
    congr 1; omega
theorem impl_traceIn.ev (l : List (List Int)) (h : fieldB l = true) : Ev (fun k => impl_traceIn.f k l) ((diag l 0).tmod 10007) := by
  obtain ⟨h1, h2, h3⟩ := fieldB_iff.1 h
  simp only [impl_traceIn.f]
  exact Ev.to (impl_traceIn.ev0 l h2 h3 l.length 0 0 (by omega) (by omega) (by omega)) (by simp)

-- says For all rows of numbers the program's TraceIn returns what the reference's returns and leaves its argument alone; no conditions.
-- row rows
theorem law (l : List (List Int)) (hl : l.length ≤ maxLen) (hr : ∀ r ∈ l, r.length ≤ maxLen ∧ ∀ z ∈ r, (Lit.int .i64 z).wf = true) : ∃ k, laws_FnExactTraceIn.f k l = some true := by
  obtain ⟨r, hs, hz⟩ := laws_szInt64SS.ev l 1048576 (by omega) (by omega) hl (fun q hq => (hr q hq).1)
  refine Ev.rounds ?_
  simp only [laws_FnExactTraceIn.f]
  refine Ev.bind hs ?_
  rcases hz with hz | ⟨h1, h2, h3, _⟩
  · simp only [if_pos hz]
    exact Ev.now _
  have hz : ¬ (r < 0) := by omega
  simp only [if_neg hz]
  have e1 := laws_toInt64SS.ev l h1 h2
  have e2 : Ev (fun k => spec_TraceIn.f k l) (if fieldB l = true then ((diag l 0).tmod 10007, 0) else (0, 1)) := by
    simp only [spec_TraceIn.f]
    refine Ev.bind (spec_l09Is.ev l h1 h2) ?_
    by_cases h : fieldB l = true
    · simp only [if_pos h]; exact Ev.bind (spec_l09Trace.ev l h) (Ev.now _)
    · simp only [if_neg h]; exact Ev.now _
  have e3 : Ev (fun k => impl_TraceIn.f k l) (if fieldB l = true then ((diag l 0).tmod 10007, 0) else (0, 1)) := by
    simp only [impl_TraceIn.f]
    refine Ev.bind (impl_IsFieldMatrix.ev l h1 h2) ?_
    by_cases h : fieldB l = true
    · simp only [if_pos h]; exact Ev.bind (impl_traceIn.ev l h) (Ev.now _)
    · simp only [if_neg h]; exact Ev.now _
  have e4 := laws_eqInt64SS.refl l (by omega) (fun q hq => by have := h2 q hq; omega)
  (try simp only [laws_FnExactTraceIn.f])
  repeat (first | (with_reducible refine Ev.bind e1 ?_; (try dsimp only)) | (with_reducible refine Ev.bind e2 ?_; (try dsimp only)) | (with_reducible refine Ev.bind e3 ?_; (try dsimp only)) | (with_reducible refine Ev.bind e4 ?_; (try dsimp only)) | (simp only [if_true, if_false, eq_self, decide_true, decide_false, Bool.and_self, Bool.true_and, Bool.and_true, bne_self_eq_false, Bool.not_true, Bool.not_false, Bool.false_eq_true, reduceCtorEq, iota_length]))
  refine Ev.succ ?_
  simp only [laws_FnExactTraceIn.j0]
  repeat (first | (with_reducible refine Ev.bind e1 ?_; (try dsimp only)) | (with_reducible refine Ev.bind e2 ?_; (try dsimp only)) | (with_reducible refine Ev.bind e3 ?_; (try dsimp only)) | (with_reducible refine Ev.bind e4 ?_; (try dsimp only)) | (simp only [if_true, if_false, eq_self, decide_true, decide_false, Bool.and_self, Bool.true_and, Bool.and_true, bne_self_eq_false, Bool.not_true, Bool.not_false, Bool.false_eq_true, reduceCtorEq, iota_length]))
  exact Ev.now _

end Go.Proofs.Ytijafgikehlomaa.PureFnExactTraceIn
