/- For all rows of numbers the program's DeterminantIn returns what the reference's returns and leaves its argument alone; no conditions. -/
import Derived.Test.YtcbomfkimohlfaaMFnExactDeterminantInx6
import Derived.Test.YtcbomfkimohlfaaLib
import Derived.Test.YtcbomfkimohlfaaLibChar
import Derived.Test.YtcbomfkimohlfaaLibInv
import Derived.Test.YtcbomfkimohlfaaLibMat
set_option linter.unusedVariables false
set_option linter.unusedSimpArgs false
set_option maxRecDepth 10000
set_option maxHeartbeats 4000000
namespace Go.Proofs.Ytcbomfkimohlfaa.PureFnExactDeterminantIn
open Go.RowKit Go.Proofs.Ytcbomfkimohlfaa.MFnExactDeterminantIn Go.Proofs.YtcbomfkimohlfaaW.PrintWords Go.Proofs.Ytcbomfkimohlfaa.Lib

theorem rdL1_eq (xs : List (List Int)) (i : Int) : rd_L1 xs i = rdl xs i := by
  have h : rd_L1 xs i = xs.getD i.toNat [] := by unfold rd_L1; rfl
  rw [h, rdl]

/-! ### laws_szInt64S -/
theorem laws_szInt64S.eq (l : List Int) (x : Int) (h0 : 0 ≤ x) (h1 : x ≤ 1048576) (hl : l.length ≤ maxLen) : laws_szInt64S.f l x = some (if x - l.length < 0 then -1 else x - l.length) := by
  unfold maxLen at hl
  simp (disch := omega) only [laws_szInt64S.f, w64]
  split <;> rfl

/-! ### laws_szInt64SS -/
theorem laws_szInt64SS.ev0 (l : List (List Int)) (hl : l.length ≤ 1048576) (hr : ∀ q ∈ l, q.length ≤ maxLen) : ∀ (d i : Nat) (x : Int), i + d = l.length → 0 ≤ x → x ≤ 1048576 →
    ∃ r, Ev (fun k => laws_szInt64SS.l0 k l x (i : Int)) r ∧ (r < 0 ∨ ((∀ q ∈ l.drop i, q.length ≤ 1048576) ∧ 0 ≤ r ∧ r ≤ x)) := by
  intro d
  induction d with
  | zero =>
    intro i x hi h0 h1
    refine ⟨x, Ev.succ ?_, .inr ⟨by rw [List.drop_of_length_le (by omega)]; simp, h0, Int.le_refl _⟩⟩
    simp (disch := omega) only [laws_szInt64SS.l0, if_neg]
    exact Ev.now _
  | succ d ih =>
    intro i x hi h0 h1
    have hq := hr _ (rdl_mem l i (by omega))
    have e := laws_szInt64S.eq (rdl l (i : Int)) x h0 h1 hq
    by_cases hz : x - (rdl l (i : Int)).length < 0
    · rw [if_pos hz] at e
      refine ⟨-1, Ev.succ ?_, .inl (by omega)⟩
      simp (disch := omega) only [laws_szInt64SS.l0, if_pos, rdL1_eq, e, Option.bind_some]
      exact Ev.now _
    · rw [if_neg hz] at e
      obtain ⟨r, hr1, hr2⟩ := ih (i + 1) (x - (rdl l (i : Int)).length) (by omega) (by omega) (by omega)
      refine ⟨r, Ev.succ ?_, ?_⟩
      · simp (disch := omega) only [laws_szInt64SS.l0, if_pos, rdL1_eq, e, Option.bind_some, if_neg, w64]
        exact hr1
      · rcases hr2 with hr2 | ⟨h2, h3, h4⟩
        · exact .inl hr2
        · refine .inr ⟨fun q hq => ?_, h3, by omega⟩
          rw [drop_rdl l i (by omega)] at hq
          rcases List.mem_cons.1 hq with rfl | hq
          · omega
          · exact h2 q hq
theorem laws_szInt64SS.ev (l : List (List Int)) (x : Int) (h0 : 0 ≤ x) (h1 : x ≤ 1048576) (hl : l.length ≤ maxLen) (hr : ∀ q ∈ l, q.length ≤ maxLen) :
    ∃ r, Ev (fun k => laws_szInt64SS.f k l x) r ∧ (r < 0 ∨ (l.length ≤ 1048576 ∧ (∀ q ∈ l, q.length ≤ 1048576) ∧ 0 ≤ r ∧ r ≤ x)) := by
  unfold maxLen at hl
  have hw : wrap64 (x - (l.length : Int)) = x - l.length := w64 (by omega) (by omega)
  simp only [laws_szInt64SS.f, hw]
  by_cases hz : x - (l.length : Int) < 0
  · simp only [if_pos hz]
    exact ⟨-1, Ev.now _, .inl (by omega)⟩
  · simp only [if_neg hz]
    obtain ⟨r, hr1, hr2⟩ := laws_szInt64SS.ev0 l (by omega) hr l.length 0 (x - l.length) (by omega) (by omega) (by omega)
    refine ⟨r, hr1, ?_⟩
    rcases hr2 with hr2 | ⟨h2, h3, h4⟩
    · exact .inl hr2
    · exact .inr ⟨by omega, by simpa using h2, h3, by omega⟩

/-! ### spec_l01In -/
theorem spec_l01In.eq (a lo hi : Int) : spec_l01In.f a lo hi = some (inB a lo hi) := by
  unfold spec_l01In.f inB
  by_cases h : lo ≤ a <;> simp [h]

/-! ### spec_l09Is -/
theorem spec_l09Is.ev0 (l : List (List Int)) (hb : l.length ≤ 28) (hq : ∀ q ∈ l, q.length ≤ 1048576) : ∀ (d i : Nat), i + d = l.length →
    Ev (fun k => spec_l09Is.l0 k l (i : Int)) ((l.drop i).all (rowB l.length)) := by
  intro d
  induction d with
  | zero =>
    intro i hi
    refine Ev.succ ?_
    simp (disch := omega) only [spec_l09Is.l0, if_neg]
    exact Ev.pure (by rw [List.drop_of_length_le (by omega)]; rfl)
  | succ d ih =>
    intro i hi
    refine Ev.succ ?_
    have hqi := hq _ (rdl_mem l i (by omega))
    rw [drop_rdl l i (by omega), List.all_cons]
    have key : ∀ (e j : Nat), j + e = (rdl l (i : Int)).length → Ev (fun k => spec_l09Is.l1 k l (i : Int) (j : Int)) (((rdl l (i : Int)).drop j).all (fun x => inB x 0 10006) && (l.drop (i + 1)).all (rowB l.length)) := by
      intro e
      induction e with
      | zero =>
        intro j hj
        refine Ev.succ ?_
        simp (disch := omega) only [spec_l09Is.l1, if_pos, if_neg, rdL1_eq, w64]
        rw [List.drop_of_length_le (show (rdl l (i : Int)).length ≤ j by omega)]
        exact ih (i + 1) (by omega)
      | succ e ihe =>
        intro j hj
        refine Ev.succ ?_
        simp (disch := omega) only [spec_l09Is.l1, if_pos, rdL1_eq, w64, spec_l01In.eq, Option.bind_some]
        rw [drop_rd _ j (by omega), List.all_cons]
        cases h : inB (rd (rdl l (i : Int)) (j : Int)) 0 10006 with
        | true => simp only [if_true, Bool.true_and]; exact ihe (j + 1) (by omega)
        | false => exact Ev.pure (by simp)
    by_cases hlen : (rdl l (i : Int)).length = l.length
    · have hlen' : ((rdl l (i : Int)).length : Int) = l.length := by omega
      simp (disch := omega) only [spec_l09Is.l0, if_pos, rdL1_eq]
      (try simp only [if_pos hlen'])
      exact Ev.to (key (rdl l (i : Int)).length 0 (by omega)) (by simp [rowB, hlen])
    · have hlen' : ¬ ((rdl l (i : Int)).length : Int) = l.length := by omega
      simp (disch := omega) only [spec_l09Is.l0, if_pos, rdL1_eq]
      (try simp only [if_neg hlen'])
      exact Ev.pure (by simp [rowB, hlen])
theorem spec_l09Is.ev (l : List (List Int)) (hl : l.length ≤ 1048576) (hq : ∀ q ∈ l, q.length ≤ 1048576) : Ev (fun k => spec_l09Is.f k l) (fieldB l) := by
  simp only [spec_l09Is.f]
  unfold fieldB
  by_cases h1 : 1 ≤ l.length
  · have h1' : ¬ ((l.length : Int) < 1) := by omega
    simp only [if_neg h1']
    refine Ev.succ ?_
    by_cases h2 : l.length ≤ 28
    · have h2' : ¬ ((l.length : Int) > 28) := by omega
      simp only [spec_l09Is.j0, h2', decide_false, Bool.false_eq_true, if_false]
      exact Ev.to (spec_l09Is.ev0 l h2 hq l.length 0 (by omega)) (by simp [h1, h2])
    · have h2' : ((l.length : Int) > 28) := by omega
      simp only [spec_l09Is.j0, h2', decide_true, if_true]
      exact Ev.pure (by simp [h2])
  · have h1' : ((l.length : Int) < 1) := by omega
    simp only [if_pos h1']
    refine Ev.succ ?_
    simp only [spec_l09Is.j0, if_true]
    exact Ev.pure (by simp [h1])

/-! ### spec_l01Own -/
theorem spec_l01Own.eq (l : List Int) (h : l.length ≤ 1099511627776) : spec_l01Own.f l = some l := by
  simp only [spec_l01Own.f, Option.bind_some, List.nil_append, List.length_nil]
  rw [if_pos (by omega)]

/-! ### spec_l09Mod -/
-- use LibChar
theorem spec_l09Mod.eq (x : Int) : spec_l09Mod.f x = some (inF x) := by
  simp only [spec_l09Mod.f, inF_wrap]
  rfl

/-! ### spec_l09Inverse -/
-- use LibChar
theorem spec_l09Inverse.ev0 (f : Nat) : ∀ (out sq e : Int), (0 ≤ out ∧ out ≤ 10006) → (0 ≤ sq ∧ sq ≤ 10006) → 0 ≤ e → e < 2 ^ f → e ≤ 100000 →
    Ev (fun k => spec_l09Inverse.l0 k out sq e) (invGo f out sq e) := by
  induction f with
  | zero =>
    intro out sq e _ _ h0 h1 _
    refine Ev.succ ?_
    have h1' : e < 1 := h1
    have c1 : ¬ e > 0 := by omega
    simp only [spec_l09Inverse.l0, if_neg c1]
    exact Ev.now _
  | succ f ih =>
    intro out sq e ho hs h0 h1 h2
    refine Ev.succ ?_
    obtain ⟨q0, q1, q2⟩ := half_lt h0 h1
    have m1 := fm_bound (a := 0) (by omega) ho hs
    have m2 := fm_bound (a := 0) (by omega) hs hs
    have w1 := Aside0.mk (w64 (x := out * sq) (by omega) (by omega))
    have w2 := Aside0.mk (w64 (x := sq * sq) (by omega) (by omega))
    have w3 := Aside0.mk (w64 (x := Int.tdiv e 2) (by omega) (by omega))
    by_cases c1 : e > 0
    · by_cases c2 : Int.tmod e 2 = 1
      · simp only [spec_l09Inverse.l0, invGo, if_pos c1, if_pos c2, w1.out, w2.out, w3.out]
        exact ih _ _ _ (tm_range m1.1) (tm_range m2.1) q0 q1 (by omega)
      · simp only [spec_l09Inverse.l0, invGo, if_pos c1, if_neg c2, w2.out, w3.out]
        exact ih _ _ _ ho (tm_range m2.1) q0 q1 (by omega)
    · simp only [spec_l09Inverse.l0, invGo, if_neg c1]
      exact Ev.now _
theorem spec_l09Inverse.ev (x : Int) (h : 0 ≤ x ∧ x ≤ 10006) : Ev (fun k => spec_l09Inverse.f k x) (invM x) := by
  simp only [spec_l09Inverse.f]
  exact spec_l09Inverse.ev0 14 1 x 10005 (by omega) h (by omega) (by decide) (by omega)

/-! ### laws_toInt64S -/
theorem laws_toInt64S.ev0 (l : List Int) (hb : l.length ≤ 17592186044416) : ∀ (d i : Nat) (acc : List Int), i + d = l.length → acc.length = l.length →
    Ev (fun k => laws_toInt64S.l0 k l acc (i : Int)) (acc.take i ++ l.drop i) := by
  intro d
  induction d with
  | zero =>
    intro i acc hi ha
    refine Ev.succ ?_
    simp (disch := omega) only [laws_toInt64S.l0, if_neg]
    exact Ev.pure (by rw [List.take_of_length_le (by omega), List.drop_of_length_le (by omega), List.append_nil])
  | succ d ih =>
    intro i acc hi ha
    refine Ev.succ ?_
    simp (disch := omega) only [laws_toInt64S.l0, if_pos, w64]
    refine Ev.to (ih (i + 1) (acc.set i (rd l i)) (by omega) (by simpa using ha)) ?_
    rw [take_set_succ _ _ _ (by omega), drop_rd l i (by omega), List.append_assoc]; rfl
theorem laws_toInt64S.ev (l : List Int) (hb : l.length ≤ 17592186044416) : Ev (fun k => laws_toInt64S.f k l) l := by
  simp (disch := omega) only [laws_toInt64S.f, if_pos]
  refine Ev.to (laws_toInt64S.ev0 l hb l.length 0 (List.replicate l.length 0) (by omega) (by simp)) (by simp)

/-! ### laws_toInt64SS -/
theorem laws_toInt64SS.ev0 (l : List (List Int)) (hb : l.length ≤ 1048576) (hr : ∀ q ∈ l, q.length ≤ 1048576) : ∀ (d i : Nat) (acc : List (List Int)), i + d = l.length → acc.length = l.length →
    Ev (fun k => laws_toInt64SS.l0 k l acc (i : Int)) (acc.take i ++ l.drop i) := by
  intro d
  induction d with
  | zero =>
    intro i acc hi ha
    refine Ev.succ ?_
    simp (disch := omega) only [laws_toInt64SS.l0, if_neg]
    exact Ev.pure (by rw [List.take_of_length_le (by omega), List.drop_of_length_le (by omega), List.append_nil])
  | succ d ih =>
    intro i acc hi ha
    refine Ev.succ ?_
    have hq := hr _ (rdl_mem l i (by omega))
    simp (disch := omega) only [laws_toInt64SS.l0, if_pos, w64, rdL1_eq]
    refine Ev.bind (laws_toInt64S.ev (rdl l (i : Int)) (by omega)) ?_
    refine Ev.to (ih (i + 1) (acc.set i (rdl l i)) (by omega) (by simpa using ha)) ?_
    rw [take_set_succ _ _ _ (by omega), drop_rdl l i (by omega), List.append_assoc]; rfl
theorem laws_toInt64SS.ev (l : List (List Int)) (hb : l.length ≤ 1048576) (hr : ∀ q ∈ l, q.length ≤ 1048576) : Ev (fun k => laws_toInt64SS.f k l) l := by
  simp (disch := omega) only [laws_toInt64SS.f, if_pos]
  refine Ev.to (laws_toInt64SS.ev0 l hb hr l.length 0 (List.replicate l.length []) (by omega) (by simp)) (by simp)

/-! ### impl_within -/
theorem impl_within.eq (a lo hi : Int) : impl_within.f a lo hi = some (inB a lo hi) := by
  unfold impl_within.f inB
  by_cases h : lo ≤ a <;> simp [h]

/-! ### impl_IsFieldMatrix -/
theorem impl_IsFieldMatrix.ev0 (l : List (List Int)) (hb : l.length ≤ 28) (hq : ∀ q ∈ l, q.length ≤ 1048576) : ∀ (d i : Nat), i + d = l.length →
    Ev (fun k => impl_IsFieldMatrix.l0 k (l.length : Int) l (l.length : Int) (i : Int)) ((l.drop i).all (rowB l.length)) := by
  intro d
  induction d with
  | zero =>
    intro i hi
    refine Ev.succ ?_
    simp (disch := omega) only [impl_IsFieldMatrix.l0, if_neg]
    exact Ev.pure (by rw [List.drop_of_length_le (by omega)]; rfl)
  | succ d ih =>
    intro i hi
    refine Ev.succ ?_
    have hqi := hq _ (rdl_mem l i (by omega))
    rw [drop_rdl l i (by omega), List.all_cons]
    have key : ∀ (e j : Nat), j + e = (rdl l (i : Int)).length → Ev (fun k => impl_IsFieldMatrix.l1 k (l.length : Int) l (l.length : Int) (i : Int) (rdl l (i : Int)) ((rdl l (i : Int)).length : Int) (j : Int)) (((rdl l (i : Int)).drop j).all (fun x => inB x 0 10006) && (l.drop (i + 1)).all (rowB l.length)) := by
      intro e
      induction e with
      | zero =>
        intro j hj
        refine Ev.succ ?_
        simp (disch := omega) only [impl_IsFieldMatrix.l1, if_pos, if_neg, w64]
        rw [List.drop_of_length_le (show (rdl l (i : Int)).length ≤ j by omega)]
        exact ih (i + 1) (by omega)
      | succ e ihe =>
        intro j hj
        refine Ev.succ ?_
        simp (disch := omega) only [impl_IsFieldMatrix.l1, if_pos, w64, impl_within.eq, Option.bind_some]
        rw [drop_rd _ j (by omega), List.all_cons]
        cases h : inB (rd (rdl l (i : Int)) (j : Int)) 0 10006 with
        | true => simp only [if_true, Bool.true_and]; exact ihe (j + 1) (by omega)
        | false => exact Ev.pure (by simp)
    by_cases hlen : (rdl l (i : Int)).length = l.length
    · have hlen' : ((rdl l (i : Int)).length : Int) = l.length := by omega
      simp (disch := omega) only [impl_IsFieldMatrix.l0, if_pos, rdL1_eq]
      (try simp only [if_pos hlen'])
      exact Ev.to (key (rdl l (i : Int)).length 0 (by omega)) (by simp [rowB, hlen])
    · have hlen' : ¬ ((rdl l (i : Int)).length : Int) = l.length := by omega
      simp (disch := omega) only [impl_IsFieldMatrix.l0, if_pos, rdL1_eq]
      (try simp only [if_neg hlen'])
      exact Ev.pure (by simp [rowB, hlen])
theorem impl_IsFieldMatrix.ev (l : List (List Int)) (hl : l.length ≤ 1048576) (hq : ∀ q ∈ l, q.length ≤ 1048576) : Ev (fun k => impl_IsFieldMatrix.f k l) (fieldB l) := by
  simp only [impl_IsFieldMatrix.f]
  unfold fieldB
  by_cases h1 : 1 ≤ l.length
  · have h1' : ¬ ((l.length : Int) < 1) := by omega
    simp only [if_neg h1']
    refine Ev.succ ?_
    by_cases h2 : l.length ≤ 28
    · have h2' : ¬ ((l.length : Int) > 28) := by omega
      simp only [impl_IsFieldMatrix.j0, h2', decide_false, Bool.false_eq_true, if_false]
      exact Ev.to (impl_IsFieldMatrix.ev0 l h2 hq l.length 0 (by omega)) (by simp [h1, h2])
    · have h2' : ((l.length : Int) > 28) := by omega
      simp only [impl_IsFieldMatrix.j0, h2', decide_true, if_true]
      exact Ev.pure (by simp [h2])
  · have h1' : ((l.length : Int) < 1) := by omega
    simp only [if_pos h1']
    refine Ev.succ ?_
    simp only [impl_IsFieldMatrix.j0, if_true]
    exact Ev.pure (by simp [h1])

/-! ### impl_copyOf -/
theorem impl_copyOf.eq (l : List Int) (h : l.length ≤ 1099511627776) : impl_copyOf.f l = some l := by
  simp only [impl_copyOf.f, Option.bind_some, List.nil_append, List.length_nil]
  rw [if_pos (by omega)]

/-! ### impl_inverseModulo -/
-- use LibChar
theorem impl_inverseModulo.ev0 (f : Nat) : ∀ (out sq e : Int), (0 ≤ out ∧ out ≤ 10006) → (0 ≤ sq ∧ sq ≤ 10006) → 0 ≤ e → e < 2 ^ f → e ≤ 100000 →
    Ev (fun k => impl_inverseModulo.l0 k sq 10007 out e) (invGo f out sq e) := by
  induction f with
  | zero =>
    intro out sq e _ _ h0 h1 _
    refine Ev.succ ?_
    have h1' : e < 1 := h1
    have c1 : ¬ e > 0 := by omega
    simp only [impl_inverseModulo.l0, if_neg c1]
    exact Ev.now _
  | succ f ih =>
    intro out sq e ho hs h0 h1 h2
    refine Ev.succ ?_
    obtain ⟨q0, q1, q2⟩ := half_lt h0 h1
    have m1 := fm_bound (a := 0) (by omega) ho hs
    have m2 := fm_bound (a := 0) (by omega) hs hs
    have w1 := Aside0.mk (w64 (x := out * sq) (by omega) (by omega))
    have w2 := Aside0.mk (w64 (x := sq * sq) (by omega) (by omega))
    have w3 := Aside0.mk (w64 (x := Int.tdiv e 2) (by omega) (by omega))
    have c0 : ¬ (10007 : Int) = 0 := by omega
    by_cases c1 : e > 0
    · by_cases c2 : Int.tmod e 2 = 1
      · simp only [impl_inverseModulo.l0, invGo, if_pos c1, if_pos c2, if_neg c0, w1.out, w2.out, w3.out]
        exact ih _ _ _ (tm_range m1.1) (tm_range m2.1) q0 q1 (by omega)
      · simp only [impl_inverseModulo.l0, invGo, if_pos c1, if_neg c2, if_neg c0, w2.out, w3.out]
        exact ih _ _ _ ho (tm_range m2.1) q0 q1 (by omega)
    · simp only [impl_inverseModulo.l0, invGo, if_neg c1]
      exact Ev.now _
theorem impl_inverseModulo.ev (x : Int) (h : 0 ≤ x ∧ x ≤ 10006) : Ev (fun k => impl_inverseModulo.f k x 10007) (invM x) := by
  have w : wrap64 ((10007 : Int) - 2) = 10005 := w64 (by omega) (by omega)
  simp only [impl_inverseModulo.f, w]
  exact impl_inverseModulo.ev0 14 1 x 10005 (by omega) h (by omega) (by decide) (by omega)

/-! ### impl_zeroRows -/
-- use LibMat
theorem impl_zeroRows.ev0 (n : Nat) (hn : n ≤ 1048576) : ∀ (d i : Nat) (acc : List (List Int)), i + d = n → acc.length = i →
    Ev (fun t => impl_zeroRows.l0 t (n : Int) acc (n : Int) (i : Int)) (acc ++ List.replicate d (List.replicate n 0)) := by
  intro d
  induction d with
  | zero =>
    intro i acc hi ha
    refine Ev.succ ?_
    have c1 : ¬ (i : Int) < (n : Int) := by omega
    simp only [impl_zeroRows.l0, if_neg c1]
    exact Ev.pure (by simp)
  | succ d ih =>
    intro i acc hi ha
    refine Ev.succ ?_
    have c1 : (i : Int) < (n : Int) := by omega
    have c2 : 0 ≤ (n : Int) := by omega
    have c3 : n ≤ 35184372088832 := by omega
    have c4 : acc.length < 5864062014805 := by omega
    have w1 := Aside0.mk (w64 (x := (i : Int) + 1) (by omega) (by omega))
    simp only [impl_zeroRows.l0, if_pos c1, if_pos c2, if_pos c3, if_pos c4, w1.out, Int.toNat_natCast]
    refine Ev.to (ih (i + 1) _ (by omega) (by simp; omega)) ?_
    rw [List.replicate_succ]
    simp
theorem impl_zeroRows.ev (n : Nat) (hn : n ≤ 1048576) : Ev (fun t => impl_zeroRows.f t (n : Int)) (List.replicate n (List.replicate n 0)) := by
  simp only [impl_zeroRows.f]
  exact Ev.to (impl_zeroRows.ev0 n hn n 0 [] (by omega) rfl) (by simp)

/-! ### impl_unitIn -/
-- use LibChar
theorem impl_unitIn.ev0 (n : Nat) (hn : n ≤ 28) : ∀ (post pre : List (List Int)), pre.length + post.length = n → (∀ q ∈ post, q = List.replicate n 0) →
    Ev (fun t => impl_unitIn.l0 t (pre ++ post) (n : Int) (pre.length : Int)) (pre ++ addD 1 pre.length post) := by
  intro post
  induction post with
  | nil =>
    intro pre hi hq
    simp only [List.length_nil] at hi
    refine Ev.succ ?_
    have c1 : ¬ (pre.length : Int) < (n : Int) := by omega
    simp only [impl_unitIn.l0, if_neg c1]
    exact Ev.pure (by simp [addD])
  | cons r post ih =>
    intro pre hi hq
    simp only [List.length_cons] at hi
    have hr := hq r (by simp)
    subst hr
    refine Ev.succ ?_
    have c1 : (pre.length : Int) < (n : Int) := by omega
    have c2 : 0 ≤ (pre.length : Int) := by omega
    have c3 : (pre.length : Int) < ((pre ++ List.replicate n 0 :: post).length : Int) := by simp; omega
    have e1 : rdl (pre ++ List.replicate n 0 :: post) (pre.length : Int) = List.replicate n 0 := rdl_pre _ _ _ _ rfl
    have c4 : (pre.length : Int) < ((List.replicate n (0 : Int)).length : Int) := by simp; omega
    have w1 := Aside0.mk (w64 (x := (pre.length : Int) + 1) (by omega) (by omega))
    simp only [impl_unitIn.l0, rdL1_eq, if_pos c1, if_pos c2, if_pos c3, e1, if_pos c4, w1.out, Int.toNat_natCast]
    rw [set_pre _ _ _ _ _ rfl]
    have := ih (pre ++ [(List.replicate n (0 : Int)).set pre.length 1]) (by simp; omega) (fun q h => hq q (by simp [h]))
    simp only [List.length_append, List.length_cons, List.length_nil, Int.natCast_add, Int.natCast_one, Nat.zero_add] at this
    refine Ev.to this ?_
    simp only [addD, rd_zeros]
    rw [show ((0 : Int) + 1).tmod 10007 = 1 from rfl]
    simp
theorem impl_unitIn.ev (n : Nat) (hn : n ≤ 28) : Ev (fun t => impl_unitIn.f t (n : Int)) (addD 1 0 (List.replicate n (List.replicate n 0))) := by
  simp only [impl_unitIn.f]
  refine Ev.bind (impl_zeroRows.ev n (by omega)) ?_
  exact Ev.to (impl_unitIn.ev0 n hn (List.replicate n (List.replicate n 0)) [] (by simp) (fun q h => (List.mem_replicate.1 h).2)) (by simp)

/-! ### impl_inField -/
-- use LibChar
theorem impl_inField.eq (x : Int) : impl_inField.f x = some (inF x) := by
  simp only [impl_inField.f, inF_wrap]
  rfl

/-! ### laws_eqInt64S -/
theorem laws_eqInt64S.ev0 (l m : List Int) (hb : l.length ≤ 4611686018427387904) (hlm : l.length = m.length) : ∀ (d i : Nat), i + d = l.length →
    Ev (fun k => laws_eqInt64S.l0 k l m (i : Int)) (decide (l.drop i = m.drop i)) := by
  intro d
  induction d with
  | zero =>
    intro i hi
    refine Ev.succ ?_
    simp (disch := omega) only [laws_eqInt64S.l0, if_neg]
    exact Ev.pure (by rw [List.drop_of_length_le (by omega), List.drop_of_length_le (by omega)]; simp)
  | succ d ih =>
    intro i hi
    refine Ev.succ ?_
    simp (disch := omega) only [laws_eqInt64S.l0, if_pos, w64]
    rw [drop_rd l i (by omega), drop_rd m i (by omega)]
    by_cases h : rd l i = rd m i
    · simp only [if_pos h]
      refine Ev.to (ih (i + 1) (by omega)) (by simp [h])
    · simp only [if_neg h]
      exact Ev.pure (by simp [h])
theorem laws_eqInt64S.ev (l m : List Int) (hb : l.length ≤ 4611686018427387904) : Ev (fun k => laws_eqInt64S.f k l m) (decide (l = m)) := by
  by_cases h : l.length = m.length
  · simp (disch := omega) only [laws_eqInt64S.f, if_pos]
    exact Ev.to (laws_eqInt64S.ev0 l m hb h l.length 0 (by omega)) (by simp)
  · simp (disch := omega) only [laws_eqInt64S.f, if_neg]
    exact Ev.pure (by simp; intro e; exact h (by rw [e]))

/-! ### laws_eqInt64SS -/
theorem laws_eqInt64SS.ev0 (l : List (List Int)) (hb : l.length ≤ 4611686018427387904) (hr : ∀ q ∈ l, q.length ≤ 4611686018427387904) : ∀ (d i : Nat), i + d = l.length →
    Ev (fun k => laws_eqInt64SS.l0 k l l (i : Int)) true := by
  intro d
  induction d with
  | zero =>
    intro i hi
    refine Ev.succ ?_
    simp (disch := omega) only [laws_eqInt64SS.l0, if_neg]
    exact Ev.now _
  | succ d ih =>
    intro i hi
    refine Ev.succ ?_
    simp (disch := omega) only [laws_eqInt64SS.l0, if_pos, w64, rdL1_eq]
    refine Ev.bind (laws_eqInt64S.ev _ _ (hr _ (rdl_mem l i (by omega)))) ?_
    simp only [decide_true, if_true]
    exact ih (i + 1) (by omega)
theorem laws_eqInt64SS.refl (l : List (List Int)) (hb : l.length ≤ 4611686018427387904) (hr : ∀ q ∈ l, q.length ≤ 4611686018427387904) : Ev (fun k => laws_eqInt64SS.f k l l) true := by
  simp only [laws_eqInt64SS.f, if_true]
  exact laws_eqInt64SS.ev0 l hb hr l.length 0 (by omega)

-- says For all rows of numbers the program's DeterminantIn returns what the reference's returns and leaves its argument alone; no conditions.
-- row rows
-- use LibInv
open Go.Proofs.Ytcbomfkimohlfaa.LibMx in
theorem inv_both (l : List (List Int)) (h : fieldB l = true) : ∃ (Z : List (List Int)) (d : Int), Ev (fun k => impl_inverseIn.f k l) (Z, d) ∧ Ev (fun k => spec_l09Solve.f k l) (d, Z) ∧ Z.length ≤ 28 ∧ ∀ q ∈ Z, q.length ≤ 28 := by
  obtain ⟨h1, h2, hfm⟩ := fieldB_FM h
  have hS := iv2.FM_Sq hfm
  have hU := iv2.unit_Sq l.length
  have hc : iv.Sq l.length l ∧ 1 ≤ l.length ∧ l.length ≤ 28 := ⟨hS, h1, h2⟩
  obtain ⟨Z, d, e1, e2, z1, z2⟩ := iv2.lock (fun k x => impl_inverseModulo.f k x 10007) (fun k x => spec_l09Inverse.f k x) l.length (fun x hx => impl_inverseModulo.ev x hx) (fun x hx => spec_l09Inverse.ev x hx) l.length 0 l _ 1 hS hU (iv2.FM_FF hfm) (by omega) (by omega)
  refine ⟨Z, d, ?_, ?_, by omega, fun q hq => by have := z2 q hq; omega⟩
  · simp only [impl_inverseIn.f, if_pos hc]
    refine Ev.bind (impl_unitIn.ev l.length h2) ?_
    simp only [if_pos hU]
    exact e1
  · simp only [spec_l09Solve.f, if_pos hc, iv2.start_glue hS]
    exact e2
theorem law (l : List (List Int)) (hl : l.length ≤ maxLen) (hr : ∀ r ∈ l, r.length ≤ maxLen ∧ ∀ z ∈ r, (Lit.int .i64 z).wf = true) : ∃ k, laws_FnExactDeterminantIn.f k l = some true := by
  obtain ⟨r, hs, hz⟩ := laws_szInt64SS.ev l 1048576 (by omega) (by omega) hl (fun q hq => (hr q hq).1)
  refine Ev.rounds ?_
  simp only [laws_FnExactDeterminantIn.f]
  refine Ev.bind hs ?_
  rcases hz with hz | ⟨h1, h2, h3, _⟩
  · simp only [if_pos hz]
    exact Ev.now _
  have hz : ¬ (r < 0) := by omega
  simp only [if_neg hz]
  have e1 := laws_toInt64SS.ev l h1 h2
  have e23 : ∃ R : Int × Int, Ev (fun k => spec_DeterminantIn.f k l) R ∧ Ev (fun k => impl_DeterminantIn.f k l) R := by
    by_cases h : fieldB l = true
    · obtain ⟨Z, d, f1, f2, _, _⟩ := inv_both l h
      refine ⟨(d, 0), ?_, ?_⟩
      · simp only [spec_DeterminantIn.f]
        refine Ev.bind (spec_l09Is.ev l h1 h2) ?_
        simp only [if_pos h]; exact Ev.bind f2 (Ev.now _)
      · simp only [impl_DeterminantIn.f]
        refine Ev.bind (impl_IsFieldMatrix.ev l h1 h2) ?_
        simp only [if_pos h]; exact Ev.bind f1 (Ev.now _)
    · refine ⟨(0, 1), ?_, ?_⟩
      · simp only [spec_DeterminantIn.f]
        refine Ev.bind (spec_l09Is.ev l h1 h2) ?_
        simp only [if_neg h]; exact Ev.now _
      · simp only [impl_DeterminantIn.f]
        refine Ev.bind (impl_IsFieldMatrix.ev l h1 h2) ?_
        simp only [if_neg h]; exact Ev.now _
  obtain ⟨⟨R1, R2⟩, e2, e3⟩ := e23
  have e4 := laws_eqInt64SS.refl l (by omega) (fun q hq => by have := h2 q hq; omega)
  (try simp only [laws_FnExactDeterminantIn.f])
  repeat (first | (with_reducible refine Ev.bind e1 ?_; (try dsimp only)) | (with_reducible refine Ev.bind e2 ?_; (try dsimp only)) | (with_reducible refine Ev.bind e3 ?_; (try dsimp only)) | (with_reducible refine Ev.bind e4 ?_; (try dsimp only)) | (simp only [if_true, if_false, eq_self, decide_true, decide_false, Bool.and_self, Bool.true_and, Bool.and_true, bne_self_eq_false, Bool.not_true, Bool.not_false, Bool.false_eq_true, reduceCtorEq, iota_length]))
  refine Ev.succ ?_
  simp only [laws_FnExactDeterminantIn.j0]
  repeat (first | (with_reducible refine Ev.bind e1 ?_; (try dsimp only)) | (with_reducible refine Ev.bind e2 ?_; (try dsimp only)) | (with_reducible refine Ev.bind e3 ?_; (try dsimp only)) | (with_reducible refine Ev.bind e4 ?_; (try dsimp only)) | (simp only [if_true, if_false, eq_self, decide_true, decide_false, Bool.and_self, Bool.true_and, Bool.and_true, bne_self_eq_false, Bool.not_true, Bool.not_false, Bool.false_eq_true, reduceCtorEq, iota_length]))
  exact Ev.now _

end Go.Proofs.Ytcbomfkimohlfaa.PureFnExactDeterminantIn
