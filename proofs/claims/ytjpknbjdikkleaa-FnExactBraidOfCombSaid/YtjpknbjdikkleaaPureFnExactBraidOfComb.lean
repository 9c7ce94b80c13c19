/- For every number and all rows of numbers the program's BraidOfComb returns what the reference's returns, keeps its argument and shares no memory; no conditions. -/
import Derived.Test.YtjpknbjdikkleaaMFnExactBraidOfCombx
import Derived.Test.YtjpknbjdikkleaaLib
import Derived.Test.YtjpknbjdikkleaaLibComb
import Derived.Test.YtjpknbjdikkleaaLibRows
set_option linter.unusedVariables false
set_option linter.unusedSimpArgs false
set_option maxRecDepth 10000
set_option maxHeartbeats 4000000
namespace Go.Proofs.Ytjpknbjdikkleaa.PureFnExactBraidOfComb
open Go.RowKit Go.Proofs.Ytjpknbjdikkleaa.MFnExactBraidOfComb Go.Proofs.YtjpknbjdikkleaaW.PrintWords Go.Proofs.Ytjpknbjdikkleaa.Lib

theorem rdL1_eq (xs : List (List Int)) (i : Int) : rd_L1 xs i = rdl xs i := by
  have h : rd_L1 xs i = xs.getD i.toNat [] := by unfold rd_L1; rfl
  rw [h, rdl]

/-! ### laws_eqInt64S -/
theorem laws_eqInt64S.ev0 (l m : List Int) (hb : l.length ≤ 4611686018427387904) (hlm : l.length = m.length) : ∀ (d i : Nat), i + d = l.length →
    Ev (fun k => laws_eqInt64S.l0 k l m (i : Int)) (decide (l.drop i = m.drop i)) := by
  intro d
  induction d with
  | zero =>
    intro i hi
    refine Ev.succ ?_
    simp (disch := omega) only [laws_eqInt64S.l0, if_neg]
    exact Ev.pure (by rw [List.drop_of_length_le (by omega), List.drop_of_length_le (by omega)]; simp)
  | succ d ih =>
    intro i hi
    refine Ev.succ ?_
    simp (disch := omega) only [laws_eqInt64S.l0, if_pos, w64]
    rw [drop_rd l i (by omega), drop_rd m i (by omega)]
    by_cases h : rd l i = rd m i
    · simp only [if_pos h]
      refine Ev.to (ih (i + 1) (by omega)) (by simp [h])
    · simp only [if_neg h]
      exact Ev.pure (by simp [h])
theorem laws_eqInt64S.ev (l m : List Int) (hb : l.length ≤ 4611686018427387904) : Ev (fun k => laws_eqInt64S.f k l m) (decide (l = m)) := by
  by_cases h : l.length = m.length
  · simp (disch := omega) only [laws_eqInt64S.f, if_pos]
    exact Ev.to (laws_eqInt64S.ev0 l m hb h l.length 0 (by omega)) (by simp)
  · simp (disch := omega) only [laws_eqInt64S.f, if_neg]
    exact Ev.pure (by simp; intro e; exact h (by rw [e]))

/-! ### laws_eqBraid -/
theorem laws_eqBraid.ev (n m : Int) (l s : List Int) (hb : l.length ≤ 4611686018427387904) : Ev (fun k => laws_eqBraid.f k n l m s) (decide (n = m) && decide (l = s)) := by
  simp only [laws_eqBraid.f]
  by_cases h : n = m
  · simp only [if_pos h]
    refine Ev.bind (laws_eqInt64S.ev l s hb) ?_
    by_cases h' : l = s <;> simp [h, h'] <;> exact Ev.now _
  · simp only [if_neg h]
    exact Ev.pure (by simp [h])

/-! ### laws_markInt64S -/
theorem laws_markInt64S.ev0 (n : Nat) (hb : n ≤ 4611686018427387904) : ∀ (d i : Nat) (acc : List Int) (x : Int), i + d = n → acc.length = n → -4611686018427387904 ≤ x → x + d ≤ 4611686018427387904 →
    Ev (fun k => laws_markInt64S.l0 k acc x (i : Int)) (x + d, acc.take i ++ iota x d) := by
  intro d
  induction d with
  | zero =>
    intro i acc x hi ha h0 h1
    refine Ev.succ ?_
    simp (disch := omega) only [laws_markInt64S.l0, if_neg]
    exact Ev.pure (by rw [List.take_of_length_le (by omega)]; simp [iota])
  | succ d ih =>
    intro i acc x hi ha h0 h1
    refine Ev.succ ?_
    simp (disch := omega) only [laws_markInt64S.l0, if_pos, w64]
    refine Ev.to (ih (i + 1) (acc.set i x) (x + 1) (by omega) (by simpa using ha) (by omega) (by omega)) ?_
    rw [take_set_succ _ _ _ (by omega), List.append_assoc]
    exact Prod.ext (by simp; omega) rfl
theorem laws_markInt64S.ev (l : List Int) (x : Int) (h0 : 0 ≤ x) (h1 : x + l.length ≤ 4611686018427387904) : Ev (fun k => laws_markInt64S.f k l x) (x + l.length, iota x l.length) := by
  simp only [laws_markInt64S.f]
  exact Ev.to (laws_markInt64S.ev0 l.length (by omega) l.length 0 l x (by omega) rfl (by omega) h1) (by simp)

/-! ### laws_markBraid -/
theorem laws_markBraid.ev (n : Int) (l : List Int) (x : Int) (h0 : 0 ≤ x) (h1 : x + l.length ≤ 4611686018427387904) : Ev (fun k => laws_markBraid.f k n l x) (x + l.length, iota x l.length) := by
  simp only [laws_markBraid.f]
  exact Ev.bind (laws_markInt64S.ev l x h0 h1) (Ev.now _)

/-! ### laws_heldInt64S -/
theorem laws_heldInt64S.ev0 (x0 : Int) (n : Nat) (h0 : -4611686018427387904 ≤ x0) (hb : x0 + n ≤ 4611686018427387904) (hn : n ≤ 4611686018427387904) : ∀ (d i : Nat), i + d = n →
    Ev (fun k => laws_heldInt64S.l0 k (iota x0 n) (x0 + i) (i : Int)) (x0 + n) := by
  intro d
  have hl := iota_length x0 n
  induction d with
  | zero =>
    intro i hi
    refine Ev.succ ?_
    simp (disch := omega) only [laws_heldInt64S.l0, if_neg]
    exact Ev.pure (by omega)
  | succ d ih =>
    intro i hi
    refine Ev.succ ?_
    have e := rd_iota n i x0 (by omega)
    simp (disch := omega) only [laws_heldInt64S.l0, if_pos, w64]
    refine Ev.to (Ev.congr (fun k => ?_) (ih (i + 1) (by omega))) rfl
    congr 1
    omega
theorem laws_heldInt64S.ev (x : Int) (n : Nat) (h0 : -4611686018427387904 ≤ x) (h1 : x + n ≤ 4611686018427387904) (hn : n ≤ 4611686018427387904) : Ev (fun k => laws_heldInt64S.f k (iota x n) x) (x + n) := by
  simp only [laws_heldInt64S.f]
  refine Ev.congr (fun k => ?_) (laws_heldInt64S.ev0 x n h0 h1 hn n 0 (by omega))
  simp

/-! ### laws_heldBraid -/
theorem laws_heldBraid.ev (m : Int) (x : Int) (n : Nat) (h0 : 0 ≤ x) (h1 : x + n ≤ 4611686018427387904) (hn : n ≤ 4611686018427387904) : Ev (fun k => laws_heldBraid.f k m (iota x n) x) (x + n) := by
  simp only [laws_heldBraid.f]
  refine Ev.bind (laws_heldInt64S.ev x n (by omega) h1 hn) ?_
  simp (disch := omega) only [if_neg]
  exact Ev.now _

/-! ### laws_szInt64S -/
theorem laws_szInt64S.eq (l : List Int) (x : Int) (h0 : 0 ≤ x) (h1 : x ≤ 1048576) (hl : l.length ≤ maxLen) : laws_szInt64S.f l x = some (if x - l.length < 0 then -1 else x - l.length) := by
  unfold maxLen at hl
  simp (disch := omega) only [laws_szInt64S.f, w64]
  split <;> rfl

/-! ### laws_szInt64SS -/
theorem laws_szInt64SS.ev0 (l : List (List Int)) (hl : l.length ≤ 1048576) (hr : ∀ q ∈ l, q.length ≤ maxLen) : ∀ (d i : Nat) (x : Int), i + d = l.length → 0 ≤ x → x ≤ 1048576 →
    ∃ r, Ev (fun k => laws_szInt64SS.l0 k l x (i : Int)) r ∧ (r < 0 ∨ ((∀ q ∈ l.drop i, q.length ≤ 1048576) ∧ 0 ≤ r ∧ r ≤ x)) := by
  intro d
  induction d with
  | zero =>
    intro i x hi h0 h1
    refine ⟨x, Ev.succ ?_, .inr ⟨by rw [List.drop_of_length_le (by omega)]; simp, h0, Int.le_refl _⟩⟩
    simp (disch := omega) only [laws_szInt64SS.l0, if_neg]
    exact Ev.now _
  | succ d ih =>
    intro i x hi h0 h1
    have hq := hr _ (rdl_mem l i (by omega))
    have e := laws_szInt64S.eq (rdl l (i : Int)) x h0 h1 hq
    by_cases hz : x - (rdl l (i : Int)).length < 0
    · rw [if_pos hz] at e
      refine ⟨-1, Ev.succ ?_, .inl (by omega)⟩
      simp (disch := omega) only [laws_szInt64SS.l0, if_pos, rdL1_eq, e, Option.bind_some]
      exact Ev.now _
    · rw [if_neg hz] at e
      obtain ⟨r, hr1, hr2⟩ := ih (i + 1) (x - (rdl l (i : Int)).length) (by omega) (by omega) (by omega)
      refine ⟨r, Ev.succ ?_, ?_⟩
      · simp (disch := omega) only [laws_szInt64SS.l0, if_pos, rdL1_eq, e, Option.bind_some, if_neg, w64]
        exact hr1
      · rcases hr2 with hr2 | ⟨h2, h3, h4⟩
        · exact .inl hr2
        · refine .inr ⟨fun q hq => ?_, h3, by omega⟩
          rw [drop_rdl l i (by omega)] at hq
          rcases List.mem_cons.1 hq with rfl | hq
          · omega
          · exact h2 q hq
theorem laws_szInt64SS.ev (l : List (List Int)) (x : Int) (h0 : 0 ≤ x) (h1 : x ≤ 1048576) (hl : l.length ≤ maxLen) (hr : ∀ q ∈ l, q.length ≤ maxLen) :
    ∃ r, Ev (fun k => laws_szInt64SS.f k l x) r ∧ (r < 0 ∨ (l.length ≤ 1048576 ∧ (∀ q ∈ l, q.length ≤ 1048576) ∧ 0 ≤ r ∧ r ≤ x)) := by
  unfold maxLen at hl
  have hw : wrap64 (x - (l.length : Int)) = x - l.length := w64 (by omega) (by omega)
  simp only [laws_szInt64SS.f, hw]
  by_cases hz : x - (l.length : Int) < 0
  · simp only [if_pos hz]
    exact ⟨-1, Ev.now _, .inl (by omega)⟩
  · simp only [if_neg hz]
    obtain ⟨r, hr1, hr2⟩ := laws_szInt64SS.ev0 l (by omega) hr l.length 0 (x - l.length) (by omega) (by omega) (by omega)
    refine ⟨r, hr1, ?_⟩
    rcases hr2 with hr2 | ⟨h2, h3, h4⟩
    · exact .inl hr2
    · exact .inr ⟨by omega, by simpa using h2, h3, by omega⟩

/-! ### laws_toInt64S -/
theorem laws_toInt64S.ev0 (l : List Int) (hb : l.length ≤ 17592186044416) : ∀ (d i : Nat) (acc : List Int), i + d = l.length → acc.length = l.length →
    Ev (fun k => laws_toInt64S.l0 k l acc (i : Int)) (acc.take i ++ l.drop i) := by
  intro d
  induction d with
  | zero =>
    intro i acc hi ha
    refine Ev.succ ?_
    simp (disch := omega) only [laws_toInt64S.l0, if_neg]
    exact Ev.pure (by rw [List.take_of_length_le (by omega), List.drop_of_length_le (by omega), List.append_nil])
  | succ d ih =>
    intro i acc hi ha
    refine Ev.succ ?_
    simp (disch := omega) only [laws_toInt64S.l0, if_pos, w64]
    refine Ev.to (ih (i + 1) (acc.set i (rd l i)) (by omega) (by simpa using ha)) ?_
    rw [take_set_succ _ _ _ (by omega), drop_rd l i (by omega), List.append_assoc]; rfl
theorem laws_toInt64S.ev (l : List Int) (hb : l.length ≤ 17592186044416) : Ev (fun k => laws_toInt64S.f k l) l := by
  simp (disch := omega) only [laws_toInt64S.f, if_pos]
  refine Ev.to (laws_toInt64S.ev0 l hb l.length 0 (List.replicate l.length 0) (by omega) (by simp)) (by simp)

/-! ### laws_toInt64SS -/
theorem laws_toInt64SS.ev0 (l : List (List Int)) (hb : l.length ≤ 1048576) (hr : ∀ q ∈ l, q.length ≤ 1048576) : ∀ (d i : Nat) (acc : List (List Int)), i + d = l.length → acc.length = l.length →
    Ev (fun k => laws_toInt64SS.l0 k l acc (i : Int)) (acc.take i ++ l.drop i) := by
  intro d
  induction d with
  | zero =>
    intro i acc hi ha
    refine Ev.succ ?_
    simp (disch := omega) only [laws_toInt64SS.l0, if_neg]
    exact Ev.pure (by rw [List.take_of_length_le (by omega), List.drop_of_length_le (by omega), List.append_nil])
  | succ d ih =>
    intro i acc hi ha
    refine Ev.succ ?_
    have hq := hr _ (rdl_mem l i (by omega))
    simp (disch := omega) only [laws_toInt64SS.l0, if_pos, w64, rdL1_eq]
    refine Ev.bind (laws_toInt64S.ev (rdl l (i : Int)) (by omega)) ?_
    refine Ev.to (ih (i + 1) (acc.set i (rdl l i)) (by omega) (by simpa using ha)) ?_
    rw [take_set_succ _ _ _ (by omega), drop_rdl l i (by omega), List.append_assoc]; rfl
theorem laws_toInt64SS.ev (l : List (List Int)) (hb : l.length ≤ 1048576) (hr : ∀ q ∈ l, q.length ≤ 1048576) : Ev (fun k => laws_toInt64SS.f k l) l := by
  simp (disch := omega) only [laws_toInt64SS.f, if_pos]
  refine Ev.to (laws_toInt64SS.ev0 l hb hr l.length 0 (List.replicate l.length []) (by omega) (by simp)) (by simp)

/-! ### laws_eqInt64SS -/
theorem laws_eqInt64SS.ev0 (l : List (List Int)) (hb : l.length ≤ 4611686018427387904) (hr : ∀ q ∈ l, q.length ≤ 4611686018427387904) : ∀ (d i : Nat), i + d = l.length →
    Ev (fun k => laws_eqInt64SS.l0 k l l (i : Int)) true := by
  intro d
  induction d with
  | zero =>
    intro i hi
    refine Ev.succ ?_
    simp (disch := omega) only [laws_eqInt64SS.l0, if_neg]
    exact Ev.now _
  | succ d ih =>
    intro i hi
    refine Ev.succ ?_
    simp (disch := omega) only [laws_eqInt64SS.l0, if_pos, w64, rdL1_eq]
    refine Ev.bind (laws_eqInt64S.ev _ _ (hr _ (rdl_mem l i (by omega)))) ?_
    simp only [decide_true, if_true]
    exact ih (i + 1) (by omega)
theorem laws_eqInt64SS.refl (l : List (List Int)) (hb : l.length ≤ 4611686018427387904) (hr : ∀ q ∈ l, q.length ≤ 4611686018427387904) : Ev (fun k => laws_eqInt64SS.f k l l) true := by
  simp only [laws_eqInt64SS.f, if_true]
  exact laws_eqInt64SS.ev0 l hb hr l.length 0 (by omega)

/-! ### spec_l01Inverse -/
theorem spec_l01Inverse.ev0 (l : List Int) (hs : Small l) (hb : l.length ≤ 1099511627776) : ∀ (d : Nat) (acc : List Int), d ≤ l.length → acc.length + d ≤ 1099511627776 →
    Ev (fun k => spec_l01Inverse.l0 k l acc ((d : Int) - 1)) (acc ++ back (l.take d)) := by
  intro d
  induction d with
  | zero =>
    intro acc hd ha
    refine Ev.succ ?_
    simp (disch := omega) only [spec_l01Inverse.l0, if_neg]
    exact Ev.pure (by simp [back])
  | succ d ih =>
    intro acc hd ha
    refine Ev.succ ?_
    have hx := hs.rd d (by omega)
    have e : ((d + 1 : Nat) : Int) - 1 = (d : Int) := by omega
    rw [e]
    simp (disch := omega) only [spec_l01Inverse.l0, if_pos, w64]
    refine Ev.to (ih (acc ++ [-rd l (d : Int)]) (by omega) (by simp; omega)) ?_
    rw [take_rd l d (by omega), back_snoc]
    simp
theorem spec_l01Inverse.ev (l : List Int) (hs : Small l) (hb : l.length ≤ 1099511627776) : Ev (fun k => spec_l01Inverse.f k l) (back l) := by
  have e : wrap64 ((l.length : Int) - 1) = (l.length : Int) - 1 := w64 (by omega) (by omega)
  simp only [spec_l01Inverse.f, e]
  exact Ev.to (spec_l01Inverse.ev0 l hs hb l.length [] (by omega) (by simpa using hb)) (by simp)

/-! ### spec_l01In -/
theorem spec_l01In.eq (a lo hi : Int) : spec_l01In.f a lo hi = some (inB a lo hi) := by
  unfold spec_l01In.f inB
  by_cases h : lo ≤ a <;> simp [h]

/-! ### spec_l10Is -/
theorem spec_l10Is.ev0 (n : Int) (l : List (List Int)) (h1 : 1 ≤ n) (h8 : n ≤ 8) (hb : (l.length : Int) = n - 1) (hq : ∀ q ∈ l, q.length ≤ 1048576 ∧ Fits q) : ∀ (d i : Nat), i + d = l.length →
    Ev (fun k => spec_l10Is.l0 k n l (i : Int)) (rowsFree (n - 1 - i) (l.drop i)) := by
  intro d
  induction d with
  | zero =>
    intro i hi
    refine Ev.succ ?_
    simp (disch := omega) only [spec_l10Is.l0, if_neg]
    exact Ev.pure (by rw [List.drop_of_length_le (by omega)]; rfl)
  | succ d ih =>
    intro i hi
    refine Ev.succ ?_
    obtain ⟨hqi, hf⟩ := hq _ (rdl_mem l i (by omega))
    have w1 : Aside0 (wrap64 (n - 1) = n - 1) := ⟨w64 (by omega) (by omega)⟩
    have w2 : Aside0 (wrap64 (n - 1 - (i : Int)) = n - 1 - i) := ⟨w64 (by omega) (by omega)⟩
    rw [drop_rdl l i (by omega)]
    generalize hw : rdl l (i : Int) = w at hqi hf
    have c1 : 0 ≤ (i : Int) := by omega
    have c2 : (i : Int) < (l.length : Int) := by omega
    have key : ∀ (e p : Nat), p + e = w.length → (0 < p → genB (n - 1 - i) (rd w ((p : Int) - 1)) = true) →
        Ev (fun k => spec_l10Is.l1 k n l (i : Int) (n - 1 - i) (p : Int)) (freeFrom (n - 1 - i) (if p = 0 then 0 else rd w ((p : Int) - 1)) (w.drop p) && rowsFree (n - 1 - i - 1) (l.drop (i + 1))) := by
      intro e
      induction e with
      | zero =>
        intro p hp hg
        refine Ev.succ ?_
        have c0 : ¬ (p : Int) < (w.length : Int) := by omega
        have w3 : Aside0 (wrap64 ((i : Int) + 1) = ((i + 1 : Nat) : Int)) := ⟨w64 (by omega) (by omega)⟩
        simp only [spec_l10Is.l1, if_pos c1, if_pos c2, if_neg c0, rdL1_eq, hw, w3.out]
        rw [List.drop_of_length_le (show w.length ≤ p by omega)]
        have := ih (i + 1) (by omega)
        rw [show n - 1 - ((i + 1 : Nat) : Int) = n - 1 - i - 1 from by omega] at this
        exact this
      | succ e ihe =>
        intro p hp hg
        refine Ev.succ ?_
        have ha := Aside0.mk (abs_gen (n - 1 - i) (rd w (p : Int)) (by omega) (hf _ (rd_mem w p (by omega))))
        have hw2 : Aside0 (wrap64 ((p : Int) + 1) = ((p + 1 : Nat) : Int)) := ⟨w64 (by omega) (by omega)⟩
        have hnx : ((p + 1 : Nat) : Int) - 1 = (p : Int) := by omega
        have c3 : (p : Int) < (w.length : Int) := by omega
        have c4 : 0 ≤ (p : Int) := by omega
        simp only [spec_l10Is.l1, if_pos c1, if_pos c2, if_pos c3, if_pos c4, rdL1_eq, hw, hw2.out, spec_l01In.eq, Option.bind_some, ha.out]
        rw [drop_rd w p (by omega)]
        simp only [freeFrom]
        cases hgp : genB (n - 1 - i) (rd w (p : Int)) with
        | false => exact Ev.pure (by simp)
        | true =>
          have hn := genB_iff.1 hgp
          have ih' := ihe (p + 1) (by omega) (fun _ => by rw [hnx]; exact hgp)
          rw [if_neg (by omega), hnx] at ih'
          by_cases h0 : p = 0
          · subst h0
            have c5 : ¬ ((0 : Nat) : Int) > 0 := by omega
            simp only [if_true, if_neg c5, Bool.true_and]
            refine Ev.to ih' ?_
            rw [show decide ((0 : Int) ≠ -rd w ((0 : Nat) : Int)) = true from decide_eq_true (by omega), Bool.true_and]
          · have hwm : Aside0 (wrap64 ((p : Int) - 1) = (p : Int) - 1) := ⟨w64 (by omega) (by omega)⟩
            have hwn : Aside0 (wrap64 (-(rd w (p : Int))) = -(rd w (p : Int))) := ⟨w64 (by omega) (by omega)⟩
            have c5 : (p : Int) > 0 := by omega
            have c6 : 0 ≤ (p : Int) - 1 := by omega
            have c7 : (p : Int) - 1 < (w.length : Int) := by omega
            simp only [if_true, if_pos c5, if_neg h0, hwm.out, if_pos c6, if_pos c7, hwn.out, Bool.true_and]
            by_cases hqq : rd w ((p : Int) - 1) = -rd w (p : Int)
            · simp only [if_pos hqq]
              exact Ev.pure (by simp [hqq])
            · simp only [if_neg hqq]
              exact Ev.to ih' (by simp [hqq])
    simp only [rowsFree]
    by_cases hl : w.length ≤ 400
    · have c8 : ¬ ((w.length : Int) > 400) := by omega
      simp only [spec_l10Is.l0, if_pos c2, if_pos c1, if_neg c8, rdL1_eq, hw, w1.out, w2.out]
      exact Ev.to (key w.length 0 (by omega) (by omega)) (by simp [hl])
    · have c8 : ((w.length : Int) > 400) := by omega
      simp only [spec_l10Is.l0, if_pos c2, if_pos c1, if_pos c8, rdL1_eq, hw]
      exact Ev.pure (by simp [hl])
theorem spec_l10Is.ev (n : Int) (l : List (List Int)) (hl : l.length ≤ 1048576) (hq : ∀ q ∈ l, q.length ≤ 1048576 ∧ Fits q) : Ev (fun k => spec_l10Is.f k n l) (combB n l) := by
  simp only [spec_l10Is.f, spec_l01In.eq, Option.bind_some]
  unfold combB
  cases hn : inB n 1 8 with
  | false =>
    simp only [Bool.false_eq_true, if_false, Bool.false_and]
    refine Ev.succ ?_
    simp only [spec_l10Is.j0, if_true]
    exact Ev.now _
  | true =>
    obtain ⟨h1, h8⟩ := inB_iff.1 hn
    have w1 : Aside0 (wrap64 (n - 1) = n - 1) := ⟨w64 (by omega) (by omega)⟩
    refine Ev.succ ?_
    simp only [if_true, spec_l10Is.j0, w1.out]
    by_cases hb : (l.length : Int) = n - 1
    · have e : ((l.length : Int) != n - 1) = false := by simp [hb]
      simp only [e, Bool.false_eq_true, if_false]
      exact Ev.to (spec_l10Is.ev0 n l h1 h8 hb hq l.length 0 (by omega)) (by simp [hb])
    · have e : ((l.length : Int) != n - 1) = true := by simp [hb]
      simp only [e, if_true]
      exact Ev.pure (by simp [hb])

/-! ### spec_l10Generator -/
theorem spec_l10Generator.ev1 (j : Int) (hj : j ≤ 7) : ∀ (d : Nat) (acc : List Int) (x : Int), 0 ≤ x → j + 1 - x ≤ d → d ≤ 20 → (d = 0 ∨ x + d = j + 1) → acc.length ≤ 1000 - d →
    Ev (fun k => spec_l10Generator.l1 k j acc x) (acc ++ negUp x d) := by
  intro d
  induction d with
  | zero =>
    intro acc x h0 h1 hd hx ha
    refine Ev.succ ?_
    simp (disch := omega) only [spec_l10Generator.l1, if_neg]
    exact Ev.pure (by simp [negUp])
  | succ d ih =>
    intro acc x h0 h1 hd hx ha
    refine Ev.succ ?_
    simp (disch := omega) only [spec_l10Generator.l1, if_pos, w64]
    refine Ev.to (ih (acc ++ [-x]) (x + 1) (by omega) (by omega) (by omega) (by omega) (by simp <;> omega)) (by simp [negUp])
theorem spec_l10Generator.ev0 (i j : Int) (h0 : 0 ≤ i) (hij : i < j) (hj : j ≤ 7) : ∀ (d : Nat) (acc : List Int) (x : Int), x = i + 1 + d → d ≤ 20 → acc.length ≤ 900 - d →
    Ev (fun k => spec_l10Generator.l0 k i j acc x) (acc ++ (down x d ++ ([i + 1, i + 1] ++ negUp (i + 2) (j - i - 1).toNat))) := by
  intro d
  induction d with
  | zero =>
    intro acc x hx hd ha
    refine Ev.succ ?_
    simp (disch := omega) only [spec_l10Generator.l0, if_neg, if_pos, w64, Option.bind_some, List.length_cons, List.length_nil]
    exact Ev.to (spec_l10Generator.ev1 j hj (j - i - 1).toNat (acc ++ [i + 1, i + 1]) (i + 2) (by omega) (by omega) (by omega) (by omega) (by simp <;> omega)) (by simp [down])
  | succ d ih =>
    intro acc x hx hd ha
    refine Ev.succ ?_
    simp (disch := omega) only [spec_l10Generator.l0, if_pos, w64]
    exact Ev.to (ih (acc ++ [x]) (x - 1) (by omega) (by omega) (by simp <;> omega)) (by simp [down])
theorem spec_l10Generator.ev (i j : Int) (h0 : 0 ≤ i) (hij : i < j) (hj : j ≤ 7) : Ev (fun k => spec_l10Generator.f k i j) (genW i j) := by
  simp only [spec_l10Generator.f]
  exact Ev.to (spec_l10Generator.ev0 i j h0 hij hj (j - i - 1).toNat [] j (by omega) (by omega) (by simp <;> omega)) (by simp [genW])

/-! ### spec_BraidOfComb -/
-- use LibComb
theorem spec_BraidOfComb.ev1 (n : Int) (l : List (List Int)) (k : Nat) (hk : k < l.length) (hl : l.length ≤ 7) (j : Int) (hj : 0 ≤ j ∧ j ≤ 7) (w : List Int) (hw : rdl l (k : Int) = w) (hwl : w.length ≤ 400) (hg : ∀ x ∈ w, 1 ≤ absI x ∧ absI x ≤ j) (R : Int × List Int × Int) :
    ∀ (d i : Nat) (acc : List Int), i + d = w.length → acc.length ≤ 200 → (∀ a, a.length ≤ 200 → wordGo j (w.drop i) acc = some a → Ev (fun t => spec_BraidOfComb.l0 t n l a ((k + 1 : Nat) : Int)) R) → (wordGo j (w.drop i) acc = none → R = (0, [], 3)) →
    Ev (fun t => spec_BraidOfComb.l1 t n l acc (k : Int) j (i : Int)) R := by
  intro d
  induction d with
  | zero =>
    intro i acc hi ha h1 h2
    refine Ev.succ ?_
    have c1 : 0 ≤ (k : Int) := by omega
    have c2 : (k : Int) < (l.length : Int) := by omega
    have c3 : ¬ (i : Int) < (w.length : Int) := by omega
    have w1 := Aside0.mk (w64 (x := (k : Int) + 1) (by omega) (by omega))
    simp only [spec_BraidOfComb.l1, rdL1_eq, if_pos c1, if_pos c2, hw, if_neg c3, w1.out]
    rw [List.drop_of_length_le (by omega)] at h1
    exact h1 acc ha rfl
  | succ d ih =>
    intro i acc hi ha h1 h2
    refine Ev.succ ?_
    have hx := hg _ (rd_mem w i (by omega))
    have hab := absI_eq (rd w (i : Int))
    have hlen := letW_length j (rd w (i : Int)) hx (by omega)
    have hxr : -1000 ≤ rd w (i : Int) ∧ rd w (i : Int) ≤ 1000 := by split at hab <;> omega
    have hge := spec_l10Generator.ev (absI (rd w (i : Int)) - 1) j (by omega) (by omega) (by omega)
    have hgs := genW_small (i := absI (rd w (i : Int)) - 1) (j := j) (by omega) (by omega) (by omega)
    have hgl : (genW (absI (rd w (i : Int)) - 1) j).length ≤ 20 := by rw [genW_length]; omega
    have c1 : 0 ≤ (k : Int) := by omega
    have c2 : (k : Int) < (l.length : Int) := by omega
    have c3 : (i : Int) < (w.length : Int) := by omega
    have c4 : 0 ≤ (i : Int) := by omega
    have w1 := Aside0.mk (w64 (x := (i : Int) + 1) (by omega) (by omega))
    have w2 := Aside0.mk (w64 (x := absI (rd w (i : Int)) - 1) (by omega) (by omega))
    have w3 := Aside0.mk (mx_abs (rd w (i : Int)) hxr)
    rw [drop_rd w i (by omega)] at h1 h2
    simp only [wordGo] at h1 h2
    simp only [spec_BraidOfComb.l1, rdL1_eq, if_pos c1, if_pos c2, hw, if_pos c3, if_pos c4, w3.out, w2.out]
    refine Ev.bind hge ?_
    by_cases hn : rd w (i : Int) < 0
    · have e : letW j (rd w (i : Int)) = back (genW (absI (rd w (i : Int)) - 1) j) := by rw [letW, if_pos hn]
      rw [e] at h1 h2 hlen
      simp only [if_pos hn]
      refine Ev.bind (spec_l01Inverse.ev _ hgs (by omega)) ?_
      generalize back (genW (absI (rd w (i : Int)) - 1) j) = q at h1 h2 hlen ⊢
      have c5 : acc.length + q.length < 17592186044416 := by omega
      simp only [if_pos c5, Option.bind_some, w1.out]
      by_cases c6 : ((acc ++ q).length : Int) > 200
      · simp only [if_pos c6] at h1 h2 ⊢
        exact Ev.pure (h2 trivial).symm
      · simp only [if_neg c6] at h1 h2 ⊢
        exact ih (i + 1) (acc ++ q) (by omega) (by omega) h1 h2
    · have e : letW j (rd w (i : Int)) = genW (absI (rd w (i : Int)) - 1) j := by rw [letW, if_neg hn]
      rw [e] at h1 h2 hlen
      simp only [if_neg hn]
      generalize genW (absI (rd w (i : Int)) - 1) j = q at h1 h2 hlen ⊢
      have c5 : acc.length + q.length < 17592186044416 := by omega
      simp only [if_pos c5, Option.bind_some, w1.out]
      by_cases c6 : ((acc ++ q).length : Int) > 200
      · simp only [if_pos c6] at h1 h2 ⊢
        exact Ev.pure (h2 trivial).symm
      · simp only [if_neg c6] at h1 h2 ⊢
        exact ih (i + 1) (acc ++ q) (by omega) (by omega) h1 h2
theorem spec_BraidOfComb.ev0 (n : Int) (hn : 1 ≤ n ∧ n ≤ 8) (l : List (List Int)) (hl : (l.length : Int) = n - 1) : ∀ (d k : Nat) (acc : List Int), k + d = l.length → acc.length ≤ 200 → rowsFree (n - 1 - k) (l.drop k) = true →
    Ev (fun t => spec_BraidOfComb.l0 t n l acc (k : Int)) (combR n (combGo (n - 1 - k) (l.drop k) acc)) := by
  intro d
  induction d with
  | zero =>
    intro k acc hk ha hf
    refine Ev.succ ?_
    have c1 : ¬ (k : Int) < (l.length : Int) := by omega
    simp only [spec_BraidOfComb.l0, if_neg c1]
    exact Ev.pure (by rw [List.drop_of_length_le (by omega)]; rfl)
  | succ d ih =>
    intro k acc hk ha hf
    refine Ev.succ ?_
    rw [drop_rdl l k (by omega)] at hf ⊢
    simp only [rowsFree, Bool.and_eq_true, decide_eq_true_eq] at hf
    obtain ⟨hf1, hf2, hf3⟩ := hf
    have hj : n - 1 - (k : Int) - 1 = n - 1 - ((k + 1 : Nat) : Int) := by omega
    have c1 : (k : Int) < (l.length : Int) := by omega
    have w1 := Aside0.mk (w64 (x := n - 1) (by omega) (by omega))
    have w2 := Aside0.mk (w64 (x := n - 1 - (k : Int)) (by omega) (by omega))
    simp only [spec_BraidOfComb.l0, if_pos c1, w1.out, w2.out]
    have hg : ∀ x ∈ rdl l (k : Int), 1 ≤ absI x ∧ absI x ≤ n - 1 - (k : Int) := fun x hx => by
      have := freeFrom_gen hf2 x hx
      rw [absI_eq]; split <;> omega
    refine spec_BraidOfComb.ev1 n l k (by omega) (by omega) (n - 1 - (k : Int)) (by omega) _ rfl hf1 hg _ (rdl l (k : Int)).length 0 acc (by omega) ha ?_ ?_
    · intro a ha' e
      simp only [List.drop_zero] at e
      simp only [combGo, e, hj]
      rw [hj] at hf3
      exact ih (k + 1) a (by omega) ha' hf3
    · intro e
      simp only [List.drop_zero] at e
      simp only [combGo, e, combR]
theorem spec_BraidOfComb.ev (n : Int) (l : List (List Int)) (hl : l.length ≤ 1048576) (hq : ∀ q ∈ l, q.length ≤ 1048576 ∧ Fits q) : Ev (fun t => spec_BraidOfComb.f t n l) (bocM n l) := by
  simp only [spec_BraidOfComb.f]
  refine Ev.bind (spec_l10Is.ev n l hl hq) ?_
  unfold bocM
  by_cases h : combB n l = true
  · simp only [if_pos h]
    have h' := h
    simp only [combB, Bool.and_eq_true, decide_eq_true_eq] at h'
    have := spec_BraidOfComb.ev0 n (inB_iff.1 h'.1) l h'.2.1 l.length 0 [] (by omega) (by simp) (by simpa using h'.2.2)
    simpa using this
  · simp only [if_neg h]
    exact Ev.now _

/-! ### impl_backward -/
theorem impl_backward.ev0 (l : List Int) (hs : Small l) (hb : l.length ≤ 1099511627776) : ∀ (d : Nat) (acc : List Int), d ≤ l.length → acc.length + d ≤ 1099511627776 →
    Ev (fun k => impl_backward.l0 k l acc ((d : Int) - 1)) (acc ++ back (l.take d)) := by
  intro d
  induction d with
  | zero =>
    intro acc hd ha
    refine Ev.succ ?_
    simp (disch := omega) only [impl_backward.l0, if_neg]
    exact Ev.pure (by simp [back])
  | succ d ih =>
    intro acc hd ha
    refine Ev.succ ?_
    have hx := hs.rd d (by omega)
    have e : ((d + 1 : Nat) : Int) - 1 = (d : Int) := by omega
    rw [e]
    simp (disch := omega) only [impl_backward.l0, if_pos, w64]
    refine Ev.to (ih (acc ++ [-rd l (d : Int)]) (by omega) (by simp; omega)) ?_
    rw [take_rd l d (by omega), back_snoc]
    simp
theorem impl_backward.ev (l : List Int) (hs : Small l) (hb : l.length ≤ 1099511627776) : Ev (fun k => impl_backward.f k l) (back l) := by
  have e : wrap64 ((l.length : Int) - 1) = (l.length : Int) - 1 := w64 (by omega) (by omega)
  simp only [impl_backward.f, e]
  exact Ev.to (impl_backward.ev0 l hs hb l.length [] (by omega) (by simpa using hb)) (by simp)

/-! ### impl_size -/
theorem impl_size.eq (x : Int) (h : -4611686018427387904 ≤ x ∧ x ≤ 4611686018427387904) : impl_size.f x = some (absI x) := by
  have e : wrap64 (-x) = -x := w64 (by omega) (by omega)
  simp only [impl_size.f, e, absI]

/-! ### impl_within -/
theorem impl_within.eq (a lo hi : Int) : impl_within.f a lo hi = some (inB a lo hi) := by
  unfold impl_within.f inB
  by_cases h : lo ≤ a <;> simp [h]

/-! ### impl_isCount -/
theorem impl_isCount.eq (a : Int) : impl_isCount.f a = some (inB a 1 8) := by simp only [impl_isCount.f, impl_within.eq, Option.bind_some]

/-! ### impl_isGenerator -/
theorem impl_isGenerator.eq (x n : Int) (h1 : 1 ≤ n) (h8 : n ≤ 8) : impl_isGenerator.f x n = some (genB n x) := by
  simp (disch := omega) only [impl_isGenerator.f, impl_within.eq, Option.bind_some, w64]
  unfold genB
  split <;> simp_all

/-! ### impl_IsFreeWord -/
theorem impl_IsFreeWord.ev0 (n : Int) (l : List Int) (h1 : 1 ≤ n) (h8 : n ≤ 8) (hb : l.length ≤ 4000) : ∀ (d i : Nat), i + d = l.length → (0 < i → genB n (rd l ((i : Int) - 1)) = true) →
    Ev (fun k => impl_IsFreeWord.l0 k l n l (l.length : Int) (i : Int)) (freeFrom n (if i = 0 then 0 else rd l ((i : Int) - 1)) (l.drop i)) := by
  intro d
  induction d with
  | zero =>
    intro i hi hp
    refine Ev.succ ?_
    simp (disch := omega) only [impl_IsFreeWord.l0, if_neg]
    exact Ev.pure (by rw [List.drop_of_length_le (by omega)]; rfl)
  | succ d ih =>
    intro i hi hp
    refine Ev.succ ?_
    have hw2 : wrap64 ((i : Int) + 1) = ((i + 1 : Nat) : Int) := w64 (by omega) (by omega)
    have hnx : ((i + 1 : Nat) : Int) - 1 = (i : Int) := by omega
    simp (disch := omega) only [impl_IsFreeWord.l0, if_pos, hw2, impl_isGenerator.eq, Option.bind_some]
    rw [drop_rd l i (by omega)]
    simp only [freeFrom]
    cases hg : genB n (rd l i) with
    | false => exact Ev.pure (by simp)
    | true =>
      have hn := genB_iff.1 hg
      have ih' := ih (i + 1) (by omega) (fun _ => by rw [hnx]; exact hg)
      rw [if_neg (by omega), hnx] at ih'
      by_cases h0 : i = 0
      · subst h0
        simp (disch := omega) only [if_true, if_pos, if_neg, Bool.true_and]
        refine Ev.to ih' ?_
        rw [show decide ((0 : Int) ≠ -rd l ((0 : Nat) : Int)) = true from decide_eq_true (by omega), Bool.true_and]
      · have hwm : wrap64 ((i : Int) - 1) = (i : Int) - 1 := w64 (by omega) (by omega)
        have hwn : wrap64 (-(rd l (i : Int))) = -(rd l (i : Int)) := w64 (by omega) (by omega)
        simp (disch := omega) only [if_true, if_pos, if_neg, hwm, hwn, Bool.true_and]
        by_cases hq : rd l ((i : Int) - 1) = -rd l (i : Int)
        · simp only [if_pos hq]
          exact Ev.pure (by simp [hq])
        · simp only [if_neg hq]
          exact Ev.to ih' (by simp [hq])
theorem impl_IsFreeWord.ev (n : Int) (l : List Int) : Ev (fun k => impl_IsFreeWord.f k l n) (isFreeB n l) := by
  simp only [impl_IsFreeWord.f, impl_isCount.eq, Option.bind_some]
  unfold isFreeB
  cases hn : inB n 1 8 with
  | false =>
    refine Ev.succ ?_
    simp [impl_IsFreeWord.j0]
    exact Ev.now _
  | true =>
    obtain ⟨h1, h8⟩ := inB_iff.1 hn
    refine Ev.succ ?_
    simp only [if_true, impl_IsFreeWord.j0, Bool.true_and]
    by_cases hl : l.length ≤ 4000
    · have : ¬ ((l.length : Int) > 4000) := by omega
      simp only [this, decide_false, Bool.false_eq_true, if_false, hl, decide_true, Bool.true_and]
      exact Ev.to (impl_IsFreeWord.ev0 n l h1 h8 hl l.length 0 (by omega) (by omega)) (by simp)
    · have : ((l.length : Int) > 4000) := by omega
      simp only [this, decide_true, if_true, hl, decide_false, Bool.false_and]
      exact Ev.now _

/-! ### impl_IsComb -/
theorem impl_IsComb.ev0 (n : Int) (l : List (List Int)) (h1 : 1 ≤ n) (h8 : n ≤ 8) (hb : (l.length : Int) = n - 1) (hq : ∀ q ∈ l, q.length ≤ 1048576) : ∀ (d i : Nat), i + d = l.length →
    Ev (fun k => impl_IsComb.l0 k n l (l.length : Int) (i : Int)) (rowsFree (n - 1 - i) (l.drop i)) := by
  intro d
  induction d with
  | zero =>
    intro i hi
    refine Ev.succ ?_
    simp (disch := omega) only [impl_IsComb.l0, if_neg]
    exact Ev.pure (by rw [List.drop_of_length_le (by omega)]; rfl)
  | succ d ih =>
    intro i hi
    refine Ev.succ ?_
    have hqi := hq _ (rdl_mem l i (by omega))
    have w1 : wrap64 (n - 1) = n - 1 := w64 (by omega) (by omega)
    have w2 : wrap64 (n - 1 - (i : Int)) = n - 1 - i := w64 (by omega) (by omega)
    have w3 : mx (n - 1 - (i : Int)) 1 = n - 1 - i := by unfold mx; omega
    rw [drop_rdl l i (by omega)]
    simp only [rowsFree]
    by_cases hl : (rdl l (i : Int)).length ≤ 400
    · simp (disch := omega) only [impl_IsComb.l0, if_pos, if_neg, rdL1_eq, w1, w2, w3, w64]
      refine Ev.bind (impl_IsFreeWord.ev (n - 1 - i) (rdl l (i : Int))) ?_
      have e : isFreeB (n - 1 - i) (rdl l (i : Int)) = freeFrom (n - 1 - i) 0 (rdl l (i : Int)) := by
        have e1 : inB (n - 1 - (i : Int)) 1 8 = true := inB_iff.2 (by omega)
        simp [isFreeB, e1]; omega
      rw [e]
      cases hf : freeFrom (n - 1 - i) 0 (rdl l (i : Int)) with
      | false => exact Ev.pure (by simp)
      | true =>
        have := ih (i + 1) (by omega)
        rw [show n - 1 - ((i + 1 : Nat) : Int) = n - 1 - i - 1 from by omega] at this
        exact Ev.to this (by simp [hl])
    · simp (disch := omega) only [impl_IsComb.l0, if_pos, if_neg, rdL1_eq]
      exact Ev.pure (by simp [hl])
theorem impl_IsComb.ev (n : Int) (l : List (List Int)) (hl : l.length ≤ 1048576) (hq : ∀ q ∈ l, q.length ≤ 1048576) : Ev (fun k => impl_IsComb.f k n l) (combB n l) := by
  simp only [impl_IsComb.f, impl_isCount.eq, Option.bind_some]
  unfold combB
  cases hn : inB n 1 8 with
  | false =>
    simp only [Bool.false_eq_true, if_false, Bool.false_and]
    refine Ev.succ ?_
    simp only [impl_IsComb.j0, if_true]
    exact Ev.now _
  | true =>
    obtain ⟨h1, h8⟩ := inB_iff.1 hn
    have w1 : wrap64 (n - 1) = n - 1 := w64 (by omega) (by omega)
    refine Ev.succ ?_
    simp only [if_true, impl_IsComb.j0, w1]
    by_cases hb : (l.length : Int) = n - 1
    · have e : ((l.length : Int) != n - 1) = false := by simp [hb]
      simp only [e, Bool.false_eq_true, if_false]
      exact Ev.to (impl_IsComb.ev0 n l h1 h8 hb hq l.length 0 (by omega)) (by simp [hb])
    · have e : ((l.length : Int) != n - 1) = true := by simp [hb]
      simp only [e, if_true]
      exact Ev.pure (by simp [hb])

/-! ### impl_generator -/
theorem impl_generator.ev1 (j : Int) (hj : j ≤ 7) : ∀ (d : Nat) (acc : List Int) (x : Int), 0 ≤ x → j + 1 - x ≤ d → d ≤ 20 → (d = 0 ∨ x + d = j + 1) → acc.length ≤ 1000 - d →
    Ev (fun k => impl_generator.l1 k j acc x) (acc ++ negUp x d) := by
  intro d
  induction d with
  | zero =>
    intro acc x h0 h1 hd hx ha
    refine Ev.succ ?_
    simp (disch := omega) only [impl_generator.l1, if_neg]
    exact Ev.pure (by simp [negUp])
  | succ d ih =>
    intro acc x h0 h1 hd hx ha
    refine Ev.succ ?_
    simp (disch := omega) only [impl_generator.l1, if_pos, w64]
    refine Ev.to (ih (acc ++ [-x]) (x + 1) (by omega) (by omega) (by omega) (by omega) (by simp <;> omega)) (by simp [negUp])
theorem impl_generator.ev0 (i j : Int) (h0 : 0 ≤ i) (hij : i < j) (hj : j ≤ 7) : ∀ (d : Nat) (acc : List Int) (x : Int), x = i + d → d ≤ 20 → acc.length ≤ 900 - d →
    Ev (fun k => impl_generator.l0 k i j acc x) (acc ++ (down x d ++ ([i + 1] ++ negUp (i + 2) (j - i - 1).toNat))) := by
  intro d
  induction d with
  | zero =>
    intro acc x hx hd ha
    refine Ev.succ ?_
    simp (disch := omega) only [impl_generator.l0, if_neg, if_pos, w64]
    exact Ev.to (impl_generator.ev1 j hj (j - i - 1).toNat (acc ++ [i + 1]) (i + 2) (by omega) (by omega) (by omega) (by omega) (by simp <;> omega)) (by simp [down])
  | succ d ih =>
    intro acc x hx hd ha
    refine Ev.succ ?_
    simp (disch := omega) only [impl_generator.l0, if_pos, w64]
    exact Ev.to (ih (acc ++ [x]) (x - 1) (by omega) (by omega) (by simp <;> omega)) (by simp [down])
theorem impl_generator.ev (i j : Int) (h0 : 0 ≤ i) (hij : i < j) (hj : j ≤ 7) : Ev (fun k => impl_generator.f k i j) (genW i j) := by
  simp only [impl_generator.f]
  refine Ev.to (impl_generator.ev0 i j h0 hij hj ((j - i - 1).toNat + 1) [] j (by omega) (by omega) (by simp <;> omega)) ?_
  rw [down_snoc, genW, show (j - ((j - i - 1).toNat : Int)) = i + 1 from by omega]
  simp

/-! ### impl_BraidOfComb -/
-- use LibComb
theorem impl_BraidOfComb.ev1 (n m : Int) (l : List (List Int)) (k : Nat) (hk : k < l.length) (hl : l.length ≤ 7) (j : Int) (hj : 0 ≤ j ∧ j ≤ 7) (w : List Int) (hwl : w.length ≤ 400) (hg : ∀ x ∈ w, 1 ≤ absI x ∧ absI x ≤ j) (R : Int × List Int × Int) :
    ∀ (d i : Nat) (acc : List Int), i + d = w.length → acc.length ≤ 200 → (∀ a, a.length ≤ 200 → wordGo j (w.drop i) acc = some a → Ev (fun t => impl_BraidOfComb.l0 t n l (l.length : Int) ((k + 1 : Nat) : Int) m a) R) → (wordGo j (w.drop i) acc = none → R = (0, [], 3)) →
    Ev (fun t => impl_BraidOfComb.l1 t n j l (l.length : Int) (k : Int) w (w.length : Int) (i : Int) m acc) R := by
  intro d
  induction d with
  | zero =>
    intro i acc hi ha h1 h2
    refine Ev.succ ?_
    have c3 : ¬ (i : Int) < (w.length : Int) := by omega
    have w1 := Aside0.mk (w64 (x := (k : Int) + 1) (by omega) (by omega))
    simp only [impl_BraidOfComb.l1, if_neg c3, w1.out]
    rw [List.drop_of_length_le (by omega)] at h1
    exact h1 acc ha rfl
  | succ d ih =>
    intro i acc hi ha h1 h2
    refine Ev.succ ?_
    have hx := hg _ (rd_mem w i (by omega))
    have hab := absI_eq (rd w (i : Int))
    have hlen := letW_length j (rd w (i : Int)) hx (by omega)
    have hxr : -1000 ≤ rd w (i : Int) ∧ rd w (i : Int) ≤ 1000 := by split at hab <;> omega
    have hge := impl_generator.ev (absI (rd w (i : Int)) - 1) j (by omega) (by omega) (by omega)
    have hgs := genW_small (i := absI (rd w (i : Int)) - 1) (j := j) (by omega) (by omega) (by omega)
    have hgl : (genW (absI (rd w (i : Int)) - 1) j).length ≤ 20 := by rw [genW_length]; omega
    have c3 : (i : Int) < (w.length : Int) := by omega
    have c4 : 0 ≤ (i : Int) := by omega
    have w1 := Aside0.mk (w64 (x := (i : Int) + 1) (by omega) (by omega))
    have w2 := Aside0.mk (w64 (x := absI (rd w (i : Int)) - 1) (by omega) (by omega))
    rw [drop_rd w i (by omega)] at h1 h2
    simp only [wordGo] at h1 h2
    simp only [impl_BraidOfComb.l1, if_pos c3, if_pos c4, impl_size.eq _ (show -4611686018427387904 ≤ rd w (i : Int) ∧ rd w (i : Int) ≤ 4611686018427387904 by omega), Option.bind_some, w2.out]
    refine Ev.bind hge ?_
    by_cases hn : rd w (i : Int) < 0
    · have e : letW j (rd w (i : Int)) = back (genW (absI (rd w (i : Int)) - 1) j) := by rw [letW, if_pos hn]
      rw [e] at h1 h2 hlen
      simp only [if_pos hn]
      refine Ev.bind (impl_backward.ev _ hgs (by omega)) ?_
      generalize back (genW (absI (rd w (i : Int)) - 1) j) = q at h1 h2 hlen ⊢
      have c5 : acc.length + q.length < 17592186044416 := by omega
      simp only [if_pos c5, Option.bind_some, w1.out]
      by_cases c6 : ((acc ++ q).length : Int) > 200
      · simp only [if_pos c6] at h1 h2 ⊢
        exact Ev.pure (h2 trivial).symm
      · simp only [if_neg c6] at h1 h2 ⊢
        exact ih (i + 1) (acc ++ q) (by omega) (by omega) h1 h2
    · have e : letW j (rd w (i : Int)) = genW (absI (rd w (i : Int)) - 1) j := by rw [letW, if_neg hn]
      rw [e] at h1 h2 hlen
      simp only [if_neg hn]
      generalize genW (absI (rd w (i : Int)) - 1) j = q at h1 h2 hlen ⊢
      have c5 : acc.length + q.length < 17592186044416 := by omega
      simp only [if_pos c5, Option.bind_some, w1.out]
      by_cases c6 : ((acc ++ q).length : Int) > 200
      · simp only [if_pos c6] at h1 h2 ⊢
        exact Ev.pure (h2 trivial).symm
      · simp only [if_neg c6] at h1 h2 ⊢
        exact ih (i + 1) (acc ++ q) (by omega) (by omega) h1 h2
theorem impl_BraidOfComb.ev0 (n : Int) (hn : 1 ≤ n ∧ n ≤ 8) (l : List (List Int)) (hl : (l.length : Int) = n - 1) : ∀ (d k : Nat) (acc : List Int), k + d = l.length → acc.length ≤ 200 → rowsFree (n - 1 - k) (l.drop k) = true →
    Ev (fun t => impl_BraidOfComb.l0 t n l (l.length : Int) (k : Int) n acc) (combR n (combGo (n - 1 - k) (l.drop k) acc)) := by
  intro d
  induction d with
  | zero =>
    intro k acc hk ha hf
    refine Ev.succ ?_
    have c1 : ¬ (k : Int) < (l.length : Int) := by omega
    simp only [impl_BraidOfComb.l0, if_neg c1]
    exact Ev.pure (by rw [List.drop_of_length_le (by omega)]; rfl)
  | succ d ih =>
    intro k acc hk ha hf
    refine Ev.succ ?_
    rw [drop_rdl l k (by omega)] at hf ⊢
    simp only [rowsFree, Bool.and_eq_true, decide_eq_true_eq] at hf
    obtain ⟨hf1, hf2, hf3⟩ := hf
    have hj : n - 1 - (k : Int) - 1 = n - 1 - ((k + 1 : Nat) : Int) := by omega
    have c1 : (k : Int) < (l.length : Int) := by omega
    have c2 : 0 ≤ (k : Int) := by omega
    have w1 := Aside0.mk (w64 (x := n - 1) (by omega) (by omega))
    have w2 := Aside0.mk (w64 (x := n - 1 - (k : Int)) (by omega) (by omega))
    simp only [impl_BraidOfComb.l0, rdL1_eq, if_pos c1, if_pos c2, w1.out, w2.out]
    have hg : ∀ x ∈ rdl l (k : Int), 1 ≤ absI x ∧ absI x ≤ n - 1 - (k : Int) := fun x hx => by
      have := freeFrom_gen hf2 x hx
      rw [absI_eq]; split <;> omega
    refine impl_BraidOfComb.ev1 n n l k (by omega) (by omega) (n - 1 - (k : Int)) (by omega) _ hf1 hg _ (rdl l (k : Int)).length 0 acc (by omega) ha ?_ ?_
    · intro a ha' e
      simp only [List.drop_zero] at e
      simp only [combGo, e, hj]
      rw [hj] at hf3
      exact ih (k + 1) a (by omega) ha' hf3
    · intro e
      simp only [List.drop_zero] at e
      simp only [combGo, e, combR]
theorem impl_BraidOfComb.ev (n : Int) (l : List (List Int)) (hl : l.length ≤ 1048576) (hq : ∀ q ∈ l, q.length ≤ 1048576) : Ev (fun t => impl_BraidOfComb.f t n l) (bocM n l) := by
  simp only [impl_BraidOfComb.f]
  refine Ev.bind (impl_IsComb.ev n l hl hq) ?_
  unfold bocM
  by_cases h : combB n l = true
  · simp only [if_pos h]
    have h' := h
    simp only [combB, Bool.and_eq_true, decide_eq_true_eq] at h'
    have := impl_BraidOfComb.ev0 n (inB_iff.1 h'.1) l h'.2.1 l.length 0 [] (by omega) (by simp) (by simpa using h'.2.2)
    simpa using this
  · simp only [if_neg h]
    exact Ev.now _

-- says For every number and all rows of numbers the program's BraidOfComb returns what the reference's returns, keeps its argument and shares no memory; no conditions.
-- row int rows
-- hand laws_markInt64SS
-- use LibComb


end Go.Proofs.Ytjpknbjdikkleaa.PureFnExactBraidOfComb
