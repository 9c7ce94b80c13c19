/- For all rows of numbers the program's CharacteristicOf returns what the reference's returns, keeps its argument and shares no memory; no conditions. -/
import Derived.Test.YtjpknbjdikkleaaMFnExactCharacteristicOfx
import Derived.Test.YtjpknbjdikkleaaLib
import Derived.Test.YtjpknbjdikkleaaLibChar
import Derived.Test.YtjpknbjdikkleaaLibMat
import Derived.Test.YtjpknbjdikkleaaLibRows
set_option linter.unusedVariables false
set_option linter.unusedSimpArgs false
set_option maxRecDepth 10000
set_option maxHeartbeats 4000000
namespace Go.Proofs.Ytjpknbjdikkleaa.PureFnExactCharacteristicOf
open Go.RowKit Go.Proofs.Ytjpknbjdikkleaa.MFnExactCharacteristicOf Go.Proofs.YtjpknbjdikkleaaW.PrintWords Go.Proofs.Ytjpknbjdikkleaa.Lib

theorem rdL1_eq (xs : List (List Int)) (i : Int) : rd_L1 xs i = rdl xs i := by
  have h : rd_L1 xs i = xs.getD i.toNat [] := by unfold rd_L1; rfl
  rw [h, rdl]

/-! ### laws_szInt64S -/
theorem laws_szInt64S.eq (l : List Int) (x : Int) (h0 : 0 ≤ x) (h1 : x ≤ 1048576) (hl : l.length ≤ maxLen) : laws_szInt64S.f l x = some (if x - l.length < 0 then -1 else x - l.length) := by
  unfold maxLen at hl
  simp (disch := omega) only [laws_szInt64S.f, w64]
  split <;> rfl

/-! ### laws_szInt64SS -/
theorem laws_szInt64SS.ev0 (l : List (List Int)) (hl : l.length ≤ 1048576) (hr : ∀ q ∈ l, q.length ≤ maxLen) : ∀ (d i : Nat) (x : Int), i + d = l.length → 0 ≤ x → x ≤ 1048576 →
    ∃ r, Ev (fun k => laws_szInt64SS.l0 k l x (i : Int)) r ∧ (r < 0 ∨ ((∀ q ∈ l.drop i, q.length ≤ 1048576) ∧ 0 ≤ r ∧ r ≤ x)) := by
  intro d
  induction d with
  | zero =>
    intro i x hi h0 h1
    refine ⟨x, Ev.succ ?_, .inr ⟨by rw [List.drop_of_length_le (by omega)]; simp, h0, Int.le_refl _⟩⟩
    simp (disch := omega) only [laws_szInt64SS.l0, if_neg]
    exact Ev.now _
  | succ d ih =>
    intro i x hi h0 h1
    have hq := hr _ (rdl_mem l i (by omega))
    have e := laws_szInt64S.eq (rdl l (i : Int)) x h0 h1 hq
    by_cases hz : x - (rdl l (i : Int)).length < 0
    · rw [if_pos hz] at e
      refine ⟨-1, Ev.succ ?_, .inl (by omega)⟩
      simp (disch := omega) only [laws_szInt64SS.l0, if_pos, rdL1_eq, e, Option.bind_some]
      exact Ev.now _
    · rw [if_neg hz] at e
      obtain ⟨r, hr1, hr2⟩ := ih (i + 1) (x - (rdl l (i : Int)).length) (by omega) (by omega) (by omega)
      refine ⟨r, Ev.succ ?_, ?_⟩
      · simp (disch := omega) only [laws_szInt64SS.l0, if_pos, rdL1_eq, e, Option.bind_some, if_neg, w64]
        exact hr1
      · rcases hr2 with hr2 | ⟨h2, h3, h4⟩
        · exact .inl hr2
        · refine .inr ⟨fun q hq => ?_, h3, by omega⟩
          rw [drop_rdl l i (by omega)] at hq
          rcases List.mem_cons.1 hq with rfl | hq
          · omega
          · exact h2 q hq
theorem laws_szInt64SS.ev (l : List (List Int)) (x : Int) (h0 : 0 ≤ x) (h1 : x ≤ 1048576) (hl : l.length ≤ maxLen) (hr : ∀ q ∈ l, q.length ≤ maxLen) :
    ∃ r, Ev (fun k => laws_szInt64SS.f k l x) r ∧ (r < 0 ∨ (l.length ≤ 1048576 ∧ (∀ q ∈ l, q.length ≤ 1048576) ∧ 0 ≤ r ∧ r ≤ x)) := by
  unfold maxLen at hl
  have hw : wrap64 (x - (l.length : Int)) = x - l.length := w64 (by omega) (by omega)
  simp only [laws_szInt64SS.f, hw]
  by_cases hz : x - (l.length : Int) < 0
  · simp only [if_pos hz]
    exact ⟨-1, Ev.now _, .inl (by omega)⟩
  · simp only [if_neg hz]
    obtain ⟨r, hr1, hr2⟩ := laws_szInt64SS.ev0 l (by omega) hr l.length 0 (x - l.length) (by omega) (by omega) (by omega)
    refine ⟨r, hr1, ?_⟩
    rcases hr2 with hr2 | ⟨h2, h3, h4⟩
    · exact .inl hr2
    · exact .inr ⟨by omega, by simpa using h2, h3, by omega⟩

/-! ### laws_toInt64S -/
theorem laws_toInt64S.ev0 (l : List Int) (hb : l.length ≤ 17592186044416) : ∀ (d i : Nat) (acc : List Int), i + d = l.length → acc.length = l.length →
    Ev (fun k => laws_toInt64S.l0 k l acc (i : Int)) (acc.take i ++ l.drop i) := by
  intro d
  induction d with
  | zero =>
    intro i acc hi ha
    refine Ev.succ ?_
    simp (disch := omega) only [laws_toInt64S.l0, if_neg]
    exact Ev.pure (by rw [List.take_of_length_le (by omega), List.drop_of_length_le (by omega), List.append_nil])
  | succ d ih =>
    intro i acc hi ha
    refine Ev.succ ?_
    simp (disch := omega) only [laws_toInt64S.l0, if_pos, w64]
    refine Ev.to (ih (i + 1) (acc.set i (rd l i)) (by omega) (by simpa using ha)) ?_
    rw [take_set_succ _ _ _ (by omega), drop_rd l i (by omega), List.append_assoc]; rfl
theorem laws_toInt64S.ev (l : List Int) (hb : l.length ≤ 17592186044416) : Ev (fun k => laws_toInt64S.f k l) l := by
  simp (disch := omega) only [laws_toInt64S.f, if_pos]
  refine Ev.to (laws_toInt64S.ev0 l hb l.length 0 (List.replicate l.length 0) (by omega) (by simp)) (by simp)

/-! ### laws_toInt64SS -/
theorem laws_toInt64SS.ev0 (l : List (List Int)) (hb : l.length ≤ 1048576) (hr : ∀ q ∈ l, q.length ≤ 1048576) : ∀ (d i : Nat) (acc : List (List Int)), i + d = l.length → acc.length = l.length →
    Ev (fun k => laws_toInt64SS.l0 k l acc (i : Int)) (acc.take i ++ l.drop i) := by
  intro d
  induction d with
  | zero =>
    intro i acc hi ha
    refine Ev.succ ?_
    simp (disch := omega) only [laws_toInt64SS.l0, if_neg]
    exact Ev.pure (by rw [List.take_of_length_le (by omega), List.drop_of_length_le (by omega), List.append_nil])
  | succ d ih =>
    intro i acc hi ha
    refine Ev.succ ?_
    have hq := hr _ (rdl_mem l i (by omega))
    simp (disch := omega) only [laws_toInt64SS.l0, if_pos, w64, rdL1_eq]
    refine Ev.bind (laws_toInt64S.ev (rdl l (i : Int)) (by omega)) ?_
    refine Ev.to (ih (i + 1) (acc.set i (rdl l i)) (by omega) (by simpa using ha)) ?_
    rw [take_set_succ _ _ _ (by omega), drop_rdl l i (by omega), List.append_assoc]; rfl
theorem laws_toInt64SS.ev (l : List (List Int)) (hb : l.length ≤ 1048576) (hr : ∀ q ∈ l, q.length ≤ 1048576) : Ev (fun k => laws_toInt64SS.f k l) l := by
  simp (disch := omega) only [laws_toInt64SS.f, if_pos]
  refine Ev.to (laws_toInt64SS.ev0 l hb hr l.length 0 (List.replicate l.length []) (by omega) (by simp)) (by simp)

/-! ### laws_eqInt64S -/
theorem laws_eqInt64S.ev0 (l m : List Int) (hb : l.length ≤ 4611686018427387904) (hlm : l.length = m.length) : ∀ (d i : Nat), i + d = l.length →
    Ev (fun k => laws_eqInt64S.l0 k l m (i : Int)) (decide (l.drop i = m.drop i)) := by
  intro d
  induction d with
  | zero =>
    intro i hi
    refine Ev.succ ?_
    simp (disch := omega) only [laws_eqInt64S.l0, if_neg]
    exact Ev.pure (by rw [List.drop_of_length_le (by omega), List.drop_of_length_le (by omega)]; simp)
  | succ d ih =>
    intro i hi
    refine Ev.succ ?_
    simp (disch := omega) only [laws_eqInt64S.l0, if_pos, w64]
    rw [drop_rd l i (by omega), drop_rd m i (by omega)]
    by_cases h : rd l i = rd m i
    · simp only [if_pos h]
      refine Ev.to (ih (i + 1) (by omega)) (by simp [h])
    · simp only [if_neg h]
      exact Ev.pure (by simp [h])
theorem laws_eqInt64S.ev (l m : List Int) (hb : l.length ≤ 4611686018427387904) : Ev (fun k => laws_eqInt64S.f k l m) (decide (l = m)) := by
  by_cases h : l.length = m.length
  · simp (disch := omega) only [laws_eqInt64S.f, if_pos]
    exact Ev.to (laws_eqInt64S.ev0 l m hb h l.length 0 (by omega)) (by simp)
  · simp (disch := omega) only [laws_eqInt64S.f, if_neg]
    exact Ev.pure (by simp; intro e; exact h (by rw [e]))

/-! ### laws_eqInt64SS -/
theorem laws_eqInt64SS.ev0 (l : List (List Int)) (hb : l.length ≤ 4611686018427387904) (hr : ∀ q ∈ l, q.length ≤ 4611686018427387904) : ∀ (d i : Nat), i + d = l.length →
    Ev (fun k => laws_eqInt64SS.l0 k l l (i : Int)) true := by
  intro d
  induction d with
  | zero =>
    intro i hi
    refine Ev.succ ?_
    simp (disch := omega) only [laws_eqInt64SS.l0, if_neg]
    exact Ev.now _
  | succ d ih =>
    intro i hi
    refine Ev.succ ?_
    simp (disch := omega) only [laws_eqInt64SS.l0, if_pos, w64, rdL1_eq]
    refine Ev.bind (laws_eqInt64S.ev _ _ (hr _ (rdl_mem l i (by omega)))) ?_
    simp only [decide_true, if_true]
    exact ih (i + 1) (by omega)
theorem laws_eqInt64SS.refl (l : List (List Int)) (hb : l.length ≤ 4611686018427387904) (hr : ∀ q ∈ l, q.length ≤ 4611686018427387904) : Ev (fun k => laws_eqInt64SS.f k l l) true := by
  simp only [laws_eqInt64SS.f, if_true]
  exact laws_eqInt64SS.ev0 l hb hr l.length 0 (by omega)

/-! ### laws_markInt64S -/
theorem laws_markInt64S.ev0 (n : Nat) (hb : n ≤ 4611686018427387904) : ∀ (d i : Nat) (acc : List Int) (x : Int), i + d = n → acc.length = n → -4611686018427387904 ≤ x → x + d ≤ 4611686018427387904 →
    Ev (fun k => laws_markInt64S.l0 k acc x (i : Int)) (x + d, acc.take i ++ iota x d) := by
  intro d
  induction d with
  | zero =>
    intro i acc x hi ha h0 h1
    refine Ev.succ ?_
    simp (disch := omega) only [laws_markInt64S.l0, if_neg]
    exact Ev.pure (by rw [List.take_of_length_le (by omega)]; simp [iota])
  | succ d ih =>
    intro i acc x hi ha h0 h1
    refine Ev.succ ?_
    simp (disch := omega) only [laws_markInt64S.l0, if_pos, w64]
    refine Ev.to (ih (i + 1) (acc.set i x) (x + 1) (by omega) (by simpa using ha) (by omega) (by omega)) ?_
    rw [take_set_succ _ _ _ (by omega), List.append_assoc]
    exact Prod.ext (by simp; omega) rfl
theorem laws_markInt64S.ev (l : List Int) (x : Int) (h0 : 0 ≤ x) (h1 : x + l.length ≤ 4611686018427387904) : Ev (fun k => laws_markInt64S.f k l x) (x + l.length, iota x l.length) := by
  simp only [laws_markInt64S.f]
  exact Ev.to (laws_markInt64S.ev0 l.length (by omega) l.length 0 l x (by omega) rfl (by omega) h1) (by simp)

/-! ### laws_heldInt64S -/
theorem laws_heldInt64S.ev0 (x0 : Int) (n : Nat) (h0 : -4611686018427387904 ≤ x0) (hb : x0 + n ≤ 4611686018427387904) (hn : n ≤ 4611686018427387904) : ∀ (d i : Nat), i + d = n →
    Ev (fun k => laws_heldInt64S.l0 k (iota x0 n) (x0 + i) (i : Int)) (x0 + n) := by
  intro d
  have hl := iota_length x0 n
  induction d with
  | zero =>
    intro i hi
    refine Ev.succ ?_
    simp (disch := omega) only [laws_heldInt64S.l0, if_neg]
    exact Ev.pure (by omega)
  | succ d ih =>
    intro i hi
    refine Ev.succ ?_
    have e := rd_iota n i x0 (by omega)
    simp (disch := omega) only [laws_heldInt64S.l0, if_pos, w64]
    refine Ev.to (Ev.congr (fun k => ?_) (ih (i + 1) (by omega))) rfl
    congr 1
    omega
theorem laws_heldInt64S.ev (x : Int) (n : Nat) (h0 : -4611686018427387904 ≤ x) (h1 : x + n ≤ 4611686018427387904) (hn : n ≤ 4611686018427387904) : Ev (fun k => laws_heldInt64S.f k (iota x n) x) (x + n) := by
  simp only [laws_heldInt64S.f]
  refine Ev.congr (fun k => ?_) (laws_heldInt64S.ev0 x n h0 h1 hn n 0 (by omega))
  simp

/-! ### spec_l01In -/
theorem spec_l01In.eq (a lo hi : Int) : spec_l01In.f a lo hi = some (inB a lo hi) := by
  unfold spec_l01In.f inB
  by_cases h : lo ≤ a <;> simp [h]

/-! ### spec_l09Is -/
theorem spec_l09Is.ev0 (l : List (List Int)) (hb : l.length ≤ 28) (hq : ∀ q ∈ l, q.length ≤ 1048576) : ∀ (d i : Nat), i + d = l.length →
    Ev (fun k => spec_l09Is.l0 k l (i : Int)) ((l.drop i).all (rowB l.length)) := by
  intro d
  induction d with
  | zero =>
    intro i hi
    refine Ev.succ ?_
    simp (disch := omega) only [spec_l09Is.l0, if_neg]
    exact Ev.pure (by rw [List.drop_of_length_le (by omega)]; rfl)
  | succ d ih =>
    intro i hi
    refine Ev.succ ?_
    have hqi := hq _ (rdl_mem l i (by omega))
    rw [drop_rdl l i (by omega), List.all_cons]
    have key : ∀ (e j : Nat), j + e = (rdl l (i : Int)).length → Ev (fun k => spec_l09Is.l1 k l (i : Int) (j : Int)) (((rdl l (i : Int)).drop j).all (fun x => inB x 0 10006) && (l.drop (i + 1)).all (rowB l.length)) := by
      intro e
      induction e with
      | zero =>
        intro j hj
        refine Ev.succ ?_
        simp (disch := omega) only [spec_l09Is.l1, if_pos, if_neg, rdL1_eq, w64]
        rw [List.drop_of_length_le (show (rdl l (i : Int)).length ≤ j by omega)]
        exact ih (i + 1) (by omega)
      | succ e ihe =>
        intro j hj
        refine Ev.succ ?_
        simp (disch := omega) only [spec_l09Is.l1, if_pos, rdL1_eq, w64, spec_l01In.eq, Option.bind_some]
        rw [drop_rd _ j (by omega), List.all_cons]
        cases h : inB (rd (rdl l (i : Int)) (j : Int)) 0 10006 with
        | true => simp only [if_true, Bool.true_and]; exact ihe (j + 1) (by omega)
        | false => exact Ev.pure (by simp)
    by_cases hlen : (rdl l (i : Int)).length = l.length
    · have hlen' : ((rdl l (i : Int)).length : Int) = l.length := by omega
      simp (disch := omega) only [spec_l09Is.l0, if_pos, rdL1_eq]
      (try simp only [if_pos hlen'])
      exact Ev.to (key (rdl l (i : Int)).length 0 (by omega)) (by simp [rowB, hlen])
    · have hlen' : ¬ ((rdl l (i : Int)).length : Int) = l.length := by omega
      simp (disch := omega) only [spec_l09Is.l0, if_pos, rdL1_eq]
      (try simp only [if_neg hlen'])
      exact Ev.pure (by simp [rowB, hlen])
theorem spec_l09Is.ev (l : List (List Int)) (hl : l.length ≤ 1048576) (hq : ∀ q ∈ l, q.length ≤ 1048576) : Ev (fun k => spec_l09Is.f k l) (fieldB l) := by
  simp only [spec_l09Is.f]
  unfold fieldB
  by_cases h1 : 1 ≤ l.length
  · have h1' : ¬ ((l.length : Int) < 1) := by omega
    simp only [if_neg h1']
    refine Ev.succ ?_
    by_cases h2 : l.length ≤ 28
    · have h2' : ¬ ((l.length : Int) > 28) := by omega
      simp only [spec_l09Is.j0, h2', decide_false, Bool.false_eq_true, if_false]
      exact Ev.to (spec_l09Is.ev0 l h2 hq l.length 0 (by omega)) (by simp [h1, h2])
    · have h2' : ((l.length : Int) > 28) := by omega
      simp only [spec_l09Is.j0, h2', decide_true, if_true]
      exact Ev.pure (by simp [h2])
  · have h1' : ((l.length : Int) < 1) := by omega
    simp only [if_pos h1']
    refine Ev.succ ?_
    simp only [spec_l09Is.j0, if_true]
    exact Ev.pure (by simp [h1])

/-! ### spec_l01Own -/
theorem spec_l01Own.eq (l : List Int) (h : l.length ≤ 1099511627776) : spec_l01Own.f l = some l := by
  simp only [spec_l01Own.f, Option.bind_some, List.nil_append, List.length_nil]
  rw [if_pos (by omega)]

/-! ### spec_l09Times -/
-- use LibMat
theorem spec_l09Times.ev2 (n : Nat) (hn : n ≤ 28) (a b : List (List Int)) (ha : FM n a) (hb : FM n b) (out : List (List Int)) (i k : Nat) (hi : i < n) (hk : k < n) (hv : ¬ rd (rdl a (i : Int)) (k : Int) = 0) (R : List (List Int)) : ∀ (d j : Nat) (row : List Int), j + d = n → FR n row →
    Ev (fun t => spec_l09Times.l1 t a b out (i : Int) (axpy (rd (rdl a (i : Int)) (k : Int)) (rdl b (k : Int)) j d row) ((k + 1 : Nat) : Int)) R → Ev (fun t => spec_l09Times.l2 t a b out (i : Int) row (k : Int) (j : Int)) R := by
  have hla := ha.1
  have hlb := hb.1
  have hq := ha.rdl i hi
  have hr := hb.rdl k hk
  intro d
  induction d with
  | zero =>
    intro j row hj hrow hR
    refine Ev.succ ?_
    have c1 : ¬ (j : Int) < (a.length : Int) := by omega
    have w1 := Aside0.mk (w64 (x := (k : Int) + 1) (by omega) (by omega))
    simp only [spec_l09Times.l2, if_neg c1, w1.out]
    exact hR
  | succ d ih =>
    intro j row hj hrow hR
    have h1 := hrow.rd j
    have h2 := fm_bound h1 (hq.rd k) (hr.rd j)
    have hql := hq.1
    have hrl := hr.1
    have hrowl := hrow.1
    refine Ev.succ ?_
    have c1 : (j : Int) < (a.length : Int) := by omega
    have c2 : 0 ≤ (i : Int) := by omega
    have c3 : (i : Int) < (a.length : Int) := by omega
    have c4 : 0 ≤ (k : Int) := by omega
    have c5 : (k : Int) < ((rdl a (i : Int)).length : Int) := by omega
    have c6 : 0 ≤ (j : Int) := by omega
    have c7 : (j : Int) < (row.length : Int) := by omega
    have c8 : (k : Int) < (b.length : Int) := by omega
    have c9 : (j : Int) < ((rdl b (k : Int)).length : Int) := by omega
    have w1 := Aside0.mk (w64 (x := (j : Int) + 1) (by omega) (by omega))
    have w2 := Aside0.mk (w64 (x := rd (rdl a (i : Int)) (k : Int) * rd (rdl b (k : Int)) (j : Int)) (by omega) (by omega))
    have w3 := Aside0.mk (w64 (x := rd row (j : Int) + rd (rdl a (i : Int)) (k : Int) * rd (rdl b (k : Int)) (j : Int)) (by omega) (by omega))
    simp only [spec_l09Times.l2, rdL1_eq, if_pos c1, if_pos c2, if_pos c3, if_pos c4, if_pos c5, if_pos c6, if_pos c7, if_pos c8, if_pos c9, if_neg hv, w1.out, w2.out, w3.out, Int.toNat_natCast]
    exact ih (j + 1) _ (by omega) (hrow.set j (tm_range (by omega))) hR
theorem spec_l09Times.ev1 (n : Nat) (hn : n ≤ 28) (a b : List (List Int)) (ha : FM n a) (hb : FM n b) (out : List (List Int)) (i : Nat) (hi : i < n) (ho : out.length ≤ 28) (R : List (List Int)) : ∀ (d k : Nat) (row : List Int), k + d = n → FR n row →
    Ev (fun t => spec_l09Times.l0 t a b (out ++ [mulRow b (rdl a (i : Int)) n k d row]) ((i + 1 : Nat) : Int)) R → Ev (fun t => spec_l09Times.l1 t a b out (i : Int) row (k : Int)) R := by
  have hla := ha.1
  have hlb := hb.1
  have hq := ha.rdl i hi
  intro d
  induction d with
  | zero =>
    intro k row hk hrow hR
    refine Ev.succ ?_
    have c1 : ¬ (k : Int) < (a.length : Int) := by omega
    have c2 : out.length < 5864062014805 := by omega
    have w1 := Aside0.mk (w64 (x := (i : Int) + 1) (by omega) (by omega))
    simp only [spec_l09Times.l1, if_neg c1, if_pos c2, w1.out]
    exact hR
  | succ d ih =>
    intro k row hk hrow hR
    have hr := hb.rdl k (by omega)
    refine Ev.succ ?_
    have c1 : (k : Int) < (a.length : Int) := by omega
    simp only [spec_l09Times.l1, if_pos c1]
    by_cases hv : rd (rdl a (i : Int)) (k : Int) = 0
    · have hql := hq.1
      refine Ev.succ ?_
      have c0 : (0 : Int) < (a.length : Int) := by omega
      have c2 : 0 ≤ (i : Int) := by omega
      have c3 : (i : Int) < (a.length : Int) := by omega
      have c4 : 0 ≤ (k : Int) := by omega
      have c5 : (k : Int) < ((rdl a (i : Int)).length : Int) := by omega
      have w1 := Aside0.mk (w64 (x := (k : Int) + 1) (by omega) (by omega))
      simp only [spec_l09Times.l2, rdL1_eq, if_pos c0, if_pos c2, if_pos c3, if_pos c4, if_pos c5, if_pos hv, w1.out]
      simp only [mulRow, if_pos hv] at hR
      exact ih (k + 1) row (by omega) hrow hR
    · simp only [mulRow, if_neg hv] at hR
      exact spec_l09Times.ev2 n hn a b ha hb out i k hi (by omega) hv R n 0 row (by omega) hrow (ih (k + 1) _ (by omega) (axpy_FR (hq.rd k) hr n 0 row hrow) hR)
theorem spec_l09Times.ev0 (n : Nat) (hn : n ≤ 28) (a b : List (List Int)) (ha : FM n a) (hb : FM n b) : ∀ (d i : Nat) (out : List (List Int)), i + d = n → out.length = i →
    Ev (fun t => spec_l09Times.l0 t a b out (i : Int)) (out ++ timesM n (a.drop i) b) := by
  have hla := ha.1
  intro d
  induction d with
  | zero =>
    intro i out hi ho
    refine Ev.succ ?_
    have c1 : ¬ (i : Int) < (a.length : Int) := by omega
    simp only [spec_l09Times.l0, if_neg c1]
    exact Ev.pure (by rw [List.drop_of_length_le (by omega)]; simp [timesM])
  | succ d ih =>
    intro i out hi ho
    refine Ev.succ ?_
    have c1 : (i : Int) < (a.length : Int) := by omega
    have c2 : 0 ≤ (a.length : Int) := by omega
    have c3 : ((a.length : Int)).toNat ≤ 35184372088832 := by omega
    simp only [spec_l09Times.l0, if_pos c1, if_pos c2, if_pos c3]
    rw [show ((a.length : Int)).toNat = n from by omega]
    refine spec_l09Times.ev1 n hn a b ha hb out i (by omega) (by omega) _ n 0 _ (by omega) (FR.zeros n) ?_
    refine Ev.to (ih (i + 1) _ (by omega) (by simp; omega)) ?_
    rw [drop_rdl a i (by omega)]
    simp [timesM]
theorem spec_l09Times.ev (n : Nat) (hn : n ≤ 28) (a b : List (List Int)) (ha : FM n a) (hb : FM n b) : Ev (fun t => spec_l09Times.f t a b) (timesM n a b) := by
  simp only [spec_l09Times.f]
  exact Ev.to (spec_l09Times.ev0 n hn a b ha hb n 0 [] (by omega) rfl) (by simp)

/-! ### spec_l09Mod -/
-- use LibChar
theorem spec_l09Mod.eq (x : Int) : spec_l09Mod.f x = some (inF x) := by
  simp only [spec_l09Mod.f, inF_wrap]
  rfl

/-! ### spec_l09Inverse -/
-- use LibChar
theorem spec_l09Inverse.ev0 (f : Nat) : ∀ (out sq e : Int), (0 ≤ out ∧ out ≤ 10006) → (0 ≤ sq ∧ sq ≤ 10006) → 0 ≤ e → e < 2 ^ f → e ≤ 100000 →
    Ev (fun k => spec_l09Inverse.l0 k out sq e) (invGo f out sq e) := by
  induction f with
  | zero =>
    intro out sq e _ _ h0 h1 _
    refine Ev.succ ?_
    have h1' : e < 1 := h1
    have c1 : ¬ e > 0 := by omega
    simp only [spec_l09Inverse.l0, if_neg c1]
    exact Ev.now _
  | succ f ih =>
    intro out sq e ho hs h0 h1 h2
    refine Ev.succ ?_
    obtain ⟨q0, q1, q2⟩ := half_lt h0 h1
    have m1 := fm_bound (a := 0) (by omega) ho hs
    have m2 := fm_bound (a := 0) (by omega) hs hs
    have w1 := Aside0.mk (w64 (x := out * sq) (by omega) (by omega))
    have w2 := Aside0.mk (w64 (x := sq * sq) (by omega) (by omega))
    have w3 := Aside0.mk (w64 (x := Int.tdiv e 2) (by omega) (by omega))
    by_cases c1 : e > 0
    · by_cases c2 : Int.tmod e 2 = 1
      · simp only [spec_l09Inverse.l0, invGo, if_pos c1, if_pos c2, w1.out, w2.out, w3.out]
        exact ih _ _ _ (tm_range m1.1) (tm_range m2.1) q0 q1 (by omega)
      · simp only [spec_l09Inverse.l0, invGo, if_pos c1, if_neg c2, w2.out, w3.out]
        exact ih _ _ _ ho (tm_range m2.1) q0 q1 (by omega)
    · simp only [spec_l09Inverse.l0, invGo, if_neg c1]
      exact Ev.now _
theorem spec_l09Inverse.ev (x : Int) (h : 0 ≤ x ∧ x ≤ 10006) : Ev (fun k => spec_l09Inverse.f k x) (invM x) := by
  simp only [spec_l09Inverse.f]
  exact spec_l09Inverse.ev0 14 1 x 10005 (by omega) h (by omega) (by decide) (by omega)

/-! ### spec_l09Unit -/
-- use LibChar
theorem spec_l09Unit.ev0 (n : Nat) (hn : n ≤ 1048576) : ∀ (d i : Nat) (acc : List (List Int)), i + d = n → acc.length = i →
    Ev (fun t => spec_l09Unit.l0 t (n : Int) 0 acc (i : Int)) (acc ++ List.replicate d (List.replicate n 0)) := by
  intro d
  induction d with
  | zero =>
    intro i acc hi ha
    refine Ev.succ ?_
    have c1 : ¬ (i : Int) < (n : Int) := by omega
    simp only [spec_l09Unit.l0, if_neg c1]
    exact Ev.pure (by simp)
  | succ d ih =>
    intro i acc hi ha
    refine Ev.succ ?_
    have c1 : (i : Int) < (n : Int) := by omega
    have c2 : 0 ≤ (n : Int) := by omega
    have c3 : n ≤ 35184372088832 := by omega
    have c4 : acc.length < 5864062014805 := by omega
    have c5 : 0 ≤ (i : Int) := by omega
    have c6 : (i : Int) < ((List.replicate n (0 : Int)).length : Int) := by simp; omega
    have w1 := Aside0.mk (w64 (x := (i : Int) + 1) (by omega) (by omega))
    simp only [spec_l09Unit.l0, if_pos c1, if_pos c2, if_pos c3, if_pos c4, w1.out, Int.toNat_natCast, Option.bind_some, if_pos c5, if_pos c6, List.set_replicate_self]
    refine Ev.to (ih (i + 1) _ (by omega) (by simp; omega)) ?_
    rw [List.replicate_succ]
    simp
theorem spec_l09Unit.ev (n : Nat) (hn : n ≤ 1048576) : Ev (fun t => spec_l09Unit.f t (n : Int) 0) (List.replicate n (List.replicate n 0)) := by
  simp only [spec_l09Unit.f]
  exact Ev.to (spec_l09Unit.ev0 n hn n 0 [] (by omega) rfl) (by simp)

/-! ### spec_l09Trace -/
theorem spec_l09Trace.ev0 (l : List (List Int)) (hb : l.length ≤ 28) (hq : ∀ q ∈ l, q.length = l.length ∧ ∀ x ∈ q, 0 ≤ x ∧ x ≤ 10006) : ∀ (d i : Nat) (acc : Int), i + d = l.length → 0 ≤ acc → acc ≤ 10006 * i →
    Ev (fun k => spec_l09Trace.l0 k l acc (i : Int)) ((acc + diag (l.drop i) i).tmod 10007) := by
  intro d
  induction d with
  | zero =>
    intro i acc hi h0 h1
    refine Ev.succ ?_
    simp (disch := omega) only [spec_l09Trace.l0, if_neg]
    exact Ev.pure (by rw [List.drop_of_length_le (by omega)]; simp [diag])
  | succ d ih =>
    intro i acc hi h0 h1
    refine Ev.succ ?_
    obtain ⟨hl, hx⟩ := hq _ (rdl_mem l i (by omega))
    have hr := rd_range hx i
    simp (disch := omega) only [spec_l09Trace.l0, if_pos, rdL1_eq, w64]
    refine Ev.to (ih (i + 1) (acc + rd (rdl l (i : Int)) (i : Int)) (by omega) (by omega) (by omega)) ?_
    rw [drop_rdl l i (by omega), diag]
    congr 1; omega
theorem spec_l09Trace.ev (l : List (List Int)) (h : fieldB l = true) : Ev (fun k => spec_l09Trace.f k l) ((diag l 0).tmod 10007) := by
  obtain ⟨h1, h2, h3⟩ := fieldB_iff.1 h
  simp only [spec_l09Trace.f]
  exact Ev.to (spec_l09Trace.ev0 l h2 h3 l.length 0 0 (by omega) (by omega) (by omega)) (by simp)

/-! ### spec_l09Characteristic -/
-- use LibChar
theorem spec_l09Characteristic.ev1 (n : Nat) (hn : n ≤ 28) (a : List (List Int)) (out : List Int) (ho : FR (n + 1) out) (k : Nat) (hk : 1 ≤ k) (hk' : k ≤ n) (R : List Int) : ∀ (post pre : List (List Int)), pre.length + post.length = n → (∀ q ∈ post, FR n q) →
    Ev (fun t => spec_l09Characteristic.l1 t a (n : Int) out (pre ++ addD (rd out (((n - k + 1 : Nat)) : Int)) pre.length post) (k : Int) (n : Int)) R →
    Ev (fun t => spec_l09Characteristic.l1 t a (n : Int) out (pre ++ post) (k : Int) (pre.length : Int)) R := by
  intro post
  induction post with
  | nil =>
    intro pre hi hq hR
    simp only [List.length_nil, Nat.add_zero] at hi
    rw [hi]
    simpa [addD] using hR
  | cons r post ih =>
    intro pre hi hq hR
    simp only [List.length_cons] at hi
    have hr := hq r (by simp)
    have hrl := hr.1
    have h1 := hr.rd pre.length
    have h2 := ho.rd (n - k + 1)
    have hol := ho.1
    refine Ev.succ ?_
    have c1 : (pre.length : Int) < (n : Int) := by omega
    have c2 : 0 ≤ (pre.length : Int) := by omega
    have c3 : (pre.length : Int) < ((pre ++ r :: post).length : Int) := by simp; omega
    have e1 : rdl (pre ++ r :: post) (pre.length : Int) = r := rdl_pre _ _ _ _ rfl
    have c4 : (pre.length : Int) < (r.length : Int) := by omega
    have w1 := Aside0.mk (w64 (x := (pre.length : Int) + 1) (by omega) (by omega))
    have w2 := Aside0.mk (w64 (x := (n : Int) - (k : Int)) (by omega) (by omega))
    have w3 := Aside0.mk (show wrap64 ((n : Int) - (k : Int) + 1) = ((n - k + 1 : Nat) : Int) from (w64 (by omega) (by omega)).trans (by omega))
    have c5 : 0 ≤ ((n - k + 1 : Nat) : Int) := by omega
    have c6 : ((n - k + 1 : Nat) : Int) < (out.length : Int) := by omega
    have w4 := Aside0.mk (w64 (x := rd r (pre.length : Int) + rd out ((n - k + 1 : Nat) : Int)) (by omega) (by omega))
    simp only [spec_l09Characteristic.l1, rdL1_eq, if_pos c1, if_pos c2, if_pos c3, e1, spec_l01Own.eq r (by omega), Option.bind_some, if_pos c4, w1.out, w2.out, w3.out, if_pos c5, if_pos c6, w4.out, Int.toNat_natCast]
    rw [set_pre _ _ _ _ _ rfl]
    have := ih (pre ++ [r.set pre.length ((rd r (pre.length : Int) + rd out ((n - k + 1 : Nat) : Int)).tmod 10007)]) (by simp; omega) (fun q h => hq q (by simp [h]))
    simp only [List.length_append, List.length_cons, List.length_nil, Int.natCast_add, Int.natCast_one, Nat.zero_add] at this
    refine this ?_
    simpa [addD] using hR
theorem spec_l09Characteristic.ev0 (n : Nat) (h1 : 1 ≤ n) (hn : n ≤ 28) (a : List (List Int)) (ha : FM n a) : ∀ (d k : Nat) (out : List Int) (now : List (List Int)), k + d = n + 1 → 1 ≤ k → FR (n + 1) out → FM n now →
    Ev (fun t => spec_l09Characteristic.l0 t a (n : Int) out now (k : Int)) (charGo a n d k out (addD (rd out ((n - k + 1 : Nat) : Int)) 0 (timesM n a now))) := by
  intro d
  induction d with
  | zero =>
    intro k out now hk hk1 ho hw
    refine Ev.succ ?_
    have c1 : ¬ (k : Int) ≤ (n : Int) := by omega
    simp only [spec_l09Characteristic.l0, if_neg c1]
    exact Ev.now _
  | succ d ih =>
    intro k out now hk hk1 ho hw
    refine Ev.succ ?_
    have c1 : (k : Int) ≤ (n : Int) := by omega
    simp only [spec_l09Characteristic.l0, if_pos c1]
    refine Ev.bind (spec_l09Times.ev n hn a now ha hw) ?_
    have ht := timesM_FM ha hw
    have hw2 := addD_FM (ho.rd (n - k + 1)) ht
    have ev1 := spec_l09Characteristic.ev1 n hn a out ho k hk1 (by omega) (charGo a n (d + 1) k out (addD (rd out ((n - k + 1 : Nat) : Int)) 0 (timesM n a now))) (timesM n a now) [] (by simpa using ht.1) ht.2
    simp only [List.nil_append, List.length_nil, Int.natCast_zero] at ev1
    refine ev1 ?_
    generalize addD (rd out ((n - k + 1 : Nat) : Int)) 0 (timesM n a now) = N at hw2 ⊢
    have ht2 := timesM_FM ha hw2
    have hd := diag_nonneg (timesM n a N) 0 (fun q hq => (ht2.2 q hq).2)
    have b1 := tm_range hd
    have b2 := invM_range (x := (k : Int)) (by omega)
    have b3 := fm_bound (a := 0) (by omega) b1 b2
    have hol := ho.1
    refine Ev.succ ?_
    have c2 : ¬ (n : Int) < (n : Int) := by omega
    simp only [spec_l09Characteristic.l1, if_neg c2]
    refine Ev.bind (spec_l09Times.ev n hn a N ha hw2) ?_
    refine Ev.bind (spec_l09Trace.ev _ (FM_fieldB h1 hn ht2)) ?_
    refine Ev.bind (spec_l09Inverse.ev (k : Int) (by omega)) ?_
    have b4 : -((diag (timesM n a N) 0).tmod 10007) * invM (k : Int) = -((diag (timesM n a N) 0).tmod 10007 * invM (k : Int)) := Int.neg_mul _ _
    have w1 := Aside0.mk (w64 (x := -((diag (timesM n a N) 0).tmod 10007)) (by omega) (by omega))
    have w2 := Aside0.mk (w64 (x := -((diag (timesM n a N) 0).tmod 10007) * invM (k : Int)) (by omega) (by omega))
    have w3 := Aside0.mk (show wrap64 ((n : Int) - (k : Int)) = ((n - k : Nat) : Int) from (w64 (by omega) (by omega)).trans (by omega))
    have w4 := Aside0.mk (w64 (x := (k : Int) + 1) (by omega) (by omega))
    have c3 : 0 ≤ ((n - k : Nat) : Int) := by omega
    have c4 : ((n - k : Nat) : Int) < (out.length : Int) := by omega
    simp only [w1.out, w2.out, spec_l09Mod.eq, Option.bind_some, w3.out, if_pos c3, if_pos c4, w4.out, Int.toNat_natCast]
    have hc := cfM_range (timesM n a N) (k : Int)
    have := ih (k + 1) (out.set (n - k) (cfM (timesM n a N) (k : Int))) N (by omega) (by omega) (ho.set _ hc) hw2
    rw [charGo]
    by_cases hkn : k < n
    · rw [show n - (k + 1) + 1 = n - k from by omega] at this
      have e : rd (out.set (n - k) (cfM (timesM n a N) (k : Int))) ((n - k : Nat) : Int) = cfM (timesM n a N) (k : Int) := by
        simp only [rd, Int.toNat_natCast, List.getD_eq_getElem?_getD]
        rw [List.getElem?_set_self (by omega)]
        rfl
      rw [e] at this
      exact this
    · obtain rfl : d = 0 := by omega
      simp only [charGo] at this ⊢
      exact this
theorem spec_l09Characteristic.ev (a : List (List Int)) (h : fieldB a = true) : Ev (fun t => spec_l09Characteristic.f t a) (charM a).1 := by
  obtain ⟨h1, h2, ha⟩ := fieldB_FM h
  have c1 : 0 ≤ ((a.length + 1 : Nat) : Int) := by omega
  have c2 : a.length + 1 ≤ 35184372088832 := by omega
  have w1 := Aside0.mk (show wrap64 ((a.length : Int) + 1) = ((a.length + 1 : Nat) : Int) from (w64 (by omega) (by omega)).trans (by omega))
  have c3 : 0 ≤ (a.length : Int) := by omega
  have c4 : (a.length : Int) < ((List.replicate (a.length + 1) (0 : Int)).length : Int) := by simp; omega
  simp only [spec_l09Characteristic.f, w1.out, Int.toNat_natCast, if_pos c1, if_pos c2, Option.bind_some]
  refine Ev.bind (spec_l09Unit.ev a.length (by omega)) ?_
  simp only [if_pos c3, if_pos c4]
  have := spec_l09Characteristic.ev0 a.length h1 h2 a ha a.length 1 ((List.replicate (a.length + 1) 0).set a.length 1) (List.replicate a.length (List.replicate a.length 0)) (by omega) (by omega) ((FR.zeros _).set _ (by omega)) (FM.zeros _)
  rw [timesM_zeros rfl, show a.length - 1 + 1 = a.length from by omega] at this
  have e : rd ((List.replicate (a.length + 1) (0 : Int)).set a.length 1) ((a.length : Nat) : Int) = 1 := by
    simp only [rd, Int.toNat_natCast, List.getD_eq_getElem?_getD]
    rw [List.getElem?_set_self (by simp)]
    rfl
  rw [e] at this
  exact Ev.to this (by rw [charM, if_pos h])

/-! ### spec_CharacteristicOf -/
-- use LibChar
theorem spec_CharacteristicOf.ev (a : List (List Int)) (ha : a.length ≤ 1048576) (ha' : ∀ q ∈ a, q.length ≤ 1048576) : Ev (fun t => spec_CharacteristicOf.f t a) (charM a) := by
  simp only [spec_CharacteristicOf.f]
  refine Ev.bind (spec_l09Is.ev a ha ha') ?_
  by_cases h : fieldB a = true
  · simp only [if_pos h]
    refine Ev.bind (spec_l09Characteristic.ev a h) ?_
    exact Ev.pure (by simp only [charM, if_pos h])
  · simp only [if_neg h]
    exact Ev.pure (by simp only [charM, if_neg h])

/-! ### impl_within -/
theorem impl_within.eq (a lo hi : Int) : impl_within.f a lo hi = some (inB a lo hi) := by
  unfold impl_within.f inB
  by_cases h : lo ≤ a <;> simp [h]

/-! ### impl_IsFieldMatrix -/
theorem impl_IsFieldMatrix.ev0 (l : List (List Int)) (hb : l.length ≤ 28) (hq : ∀ q ∈ l, q.length ≤ 1048576) : ∀ (d i : Nat), i + d = l.length →
    Ev (fun k => impl_IsFieldMatrix.l0 k (l.length : Int) l (l.length : Int) (i : Int)) ((l.drop i).all (rowB l.length)) := by
  intro d
  induction d with
  | zero =>
    intro i hi
    refine Ev.succ ?_
    simp (disch := omega) only [impl_IsFieldMatrix.l0, if_neg]
    exact Ev.pure (by rw [List.drop_of_length_le (by omega)]; rfl)
  | succ d ih =>
    intro i hi
    refine Ev.succ ?_
    have hqi := hq _ (rdl_mem l i (by omega))
    rw [drop_rdl l i (by omega), List.all_cons]
    have key : ∀ (e j : Nat), j + e = (rdl l (i : Int)).length → Ev (fun k => impl_IsFieldMatrix.l1 k (l.length : Int) l (l.length : Int) (i : Int) (rdl l (i : Int)) ((rdl l (i : Int)).length : Int) (j : Int)) (((rdl l (i : Int)).drop j).all (fun x => inB x 0 10006) && (l.drop (i + 1)).all (rowB l.length)) := by
      intro e
      induction e with
      | zero =>
        intro j hj
        refine Ev.succ ?_
        simp (disch := omega) only [impl_IsFieldMatrix.l1, if_pos, if_neg, w64]
        rw [List.drop_of_length_le (show (rdl l (i : Int)).length ≤ j by omega)]
        exact ih (i + 1) (by omega)
      | succ e ihe =>
        intro j hj
        refine Ev.succ ?_
        simp (disch := omega) only [impl_IsFieldMatrix.l1, if_pos, w64, impl_within.eq, Option.bind_some]
        rw [drop_rd _ j (by omega), List.all_cons]
        cases h : inB (rd (rdl l (i : Int)) (j : Int)) 0 10006 with
        | true => simp only [if_true, Bool.true_and]; exact ihe (j + 1) (by omega)
        | false => exact Ev.pure (by simp)
    by_cases hlen : (rdl l (i : Int)).length = l.length
    · have hlen' : ((rdl l (i : Int)).length : Int) = l.length := by omega
      simp (disch := omega) only [impl_IsFieldMatrix.l0, if_pos, rdL1_eq]
      (try simp only [if_pos hlen'])
      exact Ev.to (key (rdl l (i : Int)).length 0 (by omega)) (by simp [rowB, hlen])
    · have hlen' : ¬ ((rdl l (i : Int)).length : Int) = l.length := by omega
      simp (disch := omega) only [impl_IsFieldMatrix.l0, if_pos, rdL1_eq]
      (try simp only [if_neg hlen'])
      exact Ev.pure (by simp [rowB, hlen])
theorem impl_IsFieldMatrix.ev (l : List (List Int)) (hl : l.length ≤ 1048576) (hq : ∀ q ∈ l, q.length ≤ 1048576) : Ev (fun k => impl_IsFieldMatrix.f k l) (fieldB l) := by
  simp only [impl_IsFieldMatrix.f]
  unfold fieldB
  by_cases h1 : 1 ≤ l.length
  · have h1' : ¬ ((l.length : Int) < 1) := by omega
    simp only [if_neg h1']
    refine Ev.succ ?_
    by_cases h2 : l.length ≤ 28
    · have h2' : ¬ ((l.length : Int) > 28) := by omega
      simp only [impl_IsFieldMatrix.j0, h2', decide_false, Bool.false_eq_true, if_false]
      exact Ev.to (impl_IsFieldMatrix.ev0 l h2 hq l.length 0 (by omega)) (by simp [h1, h2])
    · have h2' : ((l.length : Int) > 28) := by omega
      simp only [impl_IsFieldMatrix.j0, h2', decide_true, if_true]
      exact Ev.pure (by simp [h2])
  · have h1' : ((l.length : Int) < 1) := by omega
    simp only [if_pos h1']
    refine Ev.succ ?_
    simp only [impl_IsFieldMatrix.j0, if_true]
    exact Ev.pure (by simp [h1])

/-! ### impl_zeroRows -/
-- use LibMat
theorem impl_zeroRows.ev0 (n : Nat) (hn : n ≤ 1048576) : ∀ (d i : Nat) (acc : List (List Int)), i + d = n → acc.length = i →
    Ev (fun t => impl_zeroRows.l0 t (n : Int) acc (n : Int) (i : Int)) (acc ++ List.replicate d (List.replicate n 0)) := by
  intro d
  induction d with
  | zero =>
    intro i acc hi ha
    refine Ev.succ ?_
    have c1 : ¬ (i : Int) < (n : Int) := by omega
    simp only [impl_zeroRows.l0, if_neg c1]
    exact Ev.pure (by simp)
  | succ d ih =>
    intro i acc hi ha
    refine Ev.succ ?_
    have c1 : (i : Int) < (n : Int) := by omega
    have c2 : 0 ≤ (n : Int) := by omega
    have c3 : n ≤ 35184372088832 := by omega
    have c4 : acc.length < 5864062014805 := by omega
    have w1 := Aside0.mk (w64 (x := (i : Int) + 1) (by omega) (by omega))
    simp only [impl_zeroRows.l0, if_pos c1, if_pos c2, if_pos c3, if_pos c4, w1.out, Int.toNat_natCast]
    refine Ev.to (ih (i + 1) _ (by omega) (by simp; omega)) ?_
    rw [List.replicate_succ]
    simp
theorem impl_zeroRows.ev (n : Nat) (hn : n ≤ 1048576) : Ev (fun t => impl_zeroRows.f t (n : Int)) (List.replicate n (List.replicate n 0)) := by
  simp only [impl_zeroRows.f]
  exact Ev.to (impl_zeroRows.ev0 n hn n 0 [] (by omega) rfl) (by simp)

/-! ### impl_multiplyIn -/
-- use LibMat
theorem impl_multiplyIn.ev2 (n : Nat) (hn : n ≤ 28) (a b : List (List Int)) (v : Int) (hv : 0 ≤ v ∧ v ≤ 10006) (q r : List Int) (hr : FR n r) (pre post : List (List Int)) (i k : Nat) (hp : pre.length = i) (hk : k < n) (R : List (List Int)) : ∀ (d j : Nat) (row : List Int), j + d = n → FR n row →
    Ev (fun t => impl_multiplyIn.l1 t b (pre ++ axpy v r j d row :: post) (i : Int) a (n : Int) (i : Int) q (n : Int) ((k + 1 : Nat) : Int)) R → Ev (fun t => impl_multiplyIn.l2 t b (pre ++ row :: post) (i : Int) v a (n : Int) (i : Int) q (n : Int) (k : Int) r (n : Int) (j : Int)) R := by
  intro d
  induction d with
  | zero =>
    intro j row hj hrow hR
    refine Ev.succ ?_
    have c1 : ¬ (j : Int) < (n : Int) := by omega
    have w1 := Aside0.mk (w64 (x := (k : Int) + 1) (by omega) (by omega))
    simp only [impl_multiplyIn.l2, if_neg c1, w1.out]
    exact hR
  | succ d ih =>
    intro j row hj hrow hR
    have h1 := hrow.rd j
    have h2 := fm_bound h1 hv (hr.rd j)
    have hrl := hr.1
    have hrowl := hrow.1
    refine Ev.succ ?_
    have c1 : (j : Int) < (n : Int) := by omega
    have c2 : 0 ≤ (j : Int) := by omega
    have c3 : (j : Int) < (r.length : Int) := by omega
    have c4 : 0 ≤ (i : Int) := by omega
    have c5 : (i : Int) < ((pre ++ row :: post).length : Int) := by simp; omega
    have e1 : rdl (pre ++ row :: post) (i : Int) = row := rdl_pre _ _ _ _ hp
    have c6 : (j : Int) < (row.length : Int) := by omega
    have w1 := Aside0.mk (w64 (x := (j : Int) + 1) (by omega) (by omega))
    have w2 := Aside0.mk (w64 (x := v * rd r (j : Int)) (by omega) (by omega))
    have w3 := Aside0.mk (w64 (x := rd row (j : Int) + v * rd r (j : Int)) (by omega) (by omega))
    simp only [impl_multiplyIn.l2, rdL1_eq, if_pos c1, if_pos c2, if_pos c3, if_pos c4, if_pos c5, e1, if_pos c6, w1.out, w2.out, w3.out, Int.toNat_natCast]
    rw [set_pre2 _ _ _ _ _ hp]
    exact ih (j + 1) _ (by omega) (hrow.set j (tm_range (by omega))) hR
theorem impl_multiplyIn.ev1 (n : Nat) (hn : n ≤ 28) (a b : List (List Int)) (ha : FM n a) (hb : FM n b) (pre post : List (List Int)) (i : Nat) (hi : i < n) (hp : pre.length = i) (R : List (List Int)) : ∀ (d k : Nat) (row : List Int), k + d = n → FR n row →
    Ev (fun t => impl_multiplyIn.l0 t b (pre ++ mulRow b (rdl a (i : Int)) n k d row :: post) a (n : Int) ((i + 1 : Nat) : Int)) R → Ev (fun t => impl_multiplyIn.l1 t b (pre ++ row :: post) (i : Int) a (n : Int) (i : Int) (rdl a (i : Int)) (n : Int) (k : Int)) R := by
  have hlb := hb.1
  have hq := ha.rdl i hi
  have hql := hq.1
  intro d
  induction d with
  | zero =>
    intro k row hk hrow hR
    refine Ev.succ ?_
    have c1 : ¬ (k : Int) < (n : Int) := by omega
    have w1 := Aside0.mk (w64 (x := (i : Int) + 1) (by omega) (by omega))
    simp only [impl_multiplyIn.l1, if_neg c1, w1.out]
    exact hR
  | succ d ih =>
    intro k row hk hrow hR
    have hr := hb.rdl k (by omega)
    have hrl := hr.1
    refine Ev.succ ?_
    have c1 : (k : Int) < (n : Int) := by omega
    have c2 : 0 ≤ (k : Int) := by omega
    have c3 : (k : Int) < ((rdl a (i : Int)).length : Int) := by omega
    have c4 : (k : Int) < (b.length : Int) := by omega
    have w1 := Aside0.mk (w64 (x := (k : Int) + 1) (by omega) (by omega))
    by_cases hv : rd (rdl a (i : Int)) (k : Int) = 0
    · simp only [impl_multiplyIn.l1, rdL1_eq, if_pos c1, if_pos c2, if_pos c3, if_pos hv, w1.out]
      simp only [mulRow, if_pos hv] at hR
      exact ih (k + 1) row (by omega) hrow hR
    · simp only [impl_multiplyIn.l1, rdL1_eq, if_pos c1, if_pos c2, if_pos c3, if_neg hv, if_pos c4, hrl]
      simp only [mulRow, if_neg hv] at hR
      exact impl_multiplyIn.ev2 n hn a b _ (hq.rd k) _ _ hr pre post i k hp (by omega) R n 0 row (by omega) hrow (ih (k + 1) _ (by omega) (axpy_FR (hq.rd k) hr n 0 row hrow) hR)
theorem impl_multiplyIn.ev0 (n : Nat) (hn : n ≤ 28) (a b : List (List Int)) (ha : FM n a) (hb : FM n b) : ∀ (d i : Nat) (pre : List (List Int)), i + d = n → pre.length = i →
    Ev (fun t => impl_multiplyIn.l0 t b (pre ++ List.replicate d (List.replicate n 0)) a (n : Int) (i : Int)) (pre ++ timesM n (a.drop i) b) := by
  have hla := ha.1
  intro d
  induction d with
  | zero =>
    intro i pre hi hp
    refine Ev.succ ?_
    have c1 : ¬ (i : Int) < (n : Int) := by omega
    simp only [impl_multiplyIn.l0, if_neg c1]
    exact Ev.pure (by rw [List.drop_of_length_le (by omega)]; simp [timesM])
  | succ d ih =>
    intro i pre hi hp
    have hq := ha.rdl i (by omega)
    have hql := hq.1
    refine Ev.succ ?_
    have c1 : (i : Int) < (n : Int) := by omega
    have c2 : 0 ≤ (i : Int) := by omega
    have c3 : (i : Int) < (a.length : Int) := by omega
    simp only [impl_multiplyIn.l0, rdL1_eq, if_pos c1, if_pos c2, if_pos c3, hql]
    rw [List.replicate_succ]
    refine impl_multiplyIn.ev1 n hn a b ha hb pre _ i (by omega) hp _ n 0 _ (by omega) (FR.zeros n) ?_
    have := ih (i + 1) (pre ++ [mulRow b (rdl a (i : Int)) n 0 n (List.replicate n 0)]) (by omega) (by simp; omega)
    rw [drop_rdl a i (by omega)]
    simpa [timesM] using this
theorem impl_multiplyIn.ev (n : Nat) (hn : n ≤ 28) (a b : List (List Int)) (ha : FM n a) (hb : FM n b) : Ev (fun t => impl_multiplyIn.f t a b) (timesM n a b) := by
  have hla := ha.1
  simp only [impl_multiplyIn.f]
  rw [hla]
  refine Ev.bind (impl_zeroRows.ev n (by omega)) ?_
  exact Ev.to (impl_multiplyIn.ev0 n hn a b ha hb n 0 [] (by omega) rfl) (by simp)

/-! ### impl_unitIn -/
-- use LibChar
theorem impl_unitIn.ev0 (n : Nat) (hn : n ≤ 28) : ∀ (post pre : List (List Int)), pre.length + post.length = n → (∀ q ∈ post, q = List.replicate n 0) →
    Ev (fun t => impl_unitIn.l0 t (pre ++ post) (n : Int) (pre.length : Int)) (pre ++ addD 1 pre.length post) := by
  intro post
  induction post with
  | nil =>
    intro pre hi hq
    simp only [List.length_nil] at hi
    refine Ev.succ ?_
    have c1 : ¬ (pre.length : Int) < (n : Int) := by omega
    simp only [impl_unitIn.l0, if_neg c1]
    exact Ev.pure (by simp [addD])
  | cons r post ih =>
    intro pre hi hq
    simp only [List.length_cons] at hi
    have hr := hq r (by simp)
    subst hr
    refine Ev.succ ?_
    have c1 : (pre.length : Int) < (n : Int) := by omega
    have c2 : 0 ≤ (pre.length : Int) := by omega
    have c3 : (pre.length : Int) < ((pre ++ List.replicate n 0 :: post).length : Int) := by simp; omega
    have e1 : rdl (pre ++ List.replicate n 0 :: post) (pre.length : Int) = List.replicate n 0 := rdl_pre _ _ _ _ rfl
    have c4 : (pre.length : Int) < ((List.replicate n (0 : Int)).length : Int) := by simp; omega
    have w1 := Aside0.mk (w64 (x := (pre.length : Int) + 1) (by omega) (by omega))
    simp only [impl_unitIn.l0, rdL1_eq, if_pos c1, if_pos c2, if_pos c3, e1, if_pos c4, w1.out, Int.toNat_natCast]
    rw [set_pre _ _ _ _ _ rfl]
    have := ih (pre ++ [(List.replicate n (0 : Int)).set pre.length 1]) (by simp; omega) (fun q h => hq q (by simp [h]))
    simp only [List.length_append, List.length_cons, List.length_nil, Int.natCast_add, Int.natCast_one, Nat.zero_add] at this
    refine Ev.to this ?_
    simp only [addD, rd_zeros]
    rw [show ((0 : Int) + 1).tmod 10007 = 1 from rfl]
    simp
theorem impl_unitIn.ev (n : Nat) (hn : n ≤ 28) : Ev (fun t => impl_unitIn.f t (n : Int)) (addD 1 0 (List.replicate n (List.replicate n 0))) := by
  simp only [impl_unitIn.f]
  refine Ev.bind (impl_zeroRows.ev n (by omega)) ?_
  exact Ev.to (impl_unitIn.ev0 n hn (List.replicate n (List.replicate n 0)) [] (by simp) (fun q h => (List.mem_replicate.1 h).2)) (by simp)

/-! ### impl_inField -/
-- use LibChar
theorem impl_inField.eq (x : Int) : impl_inField.f x = some (inF x) := by
  simp only [impl_inField.f, inF_wrap]
  rfl

/-! ### impl_traceIn -/
theorem impl_traceIn.ev0 (l : List (List Int)) (hb : l.length ≤ 28) (hq : ∀ q ∈ l, q.length = l.length ∧ ∀ x ∈ q, 0 ≤ x ∧ x ≤ 10006) : ∀ (d i : Nat) (acc : Int), i + d = l.length → 0 ≤ acc → acc ≤ 10006 * i →
    Ev (fun k => impl_traceIn.l0 k acc l (l.length : Int) (i : Int)) ((acc + diag (l.drop i) i).tmod 10007) := by
  intro d
  induction d with
  | zero =>
    intro i acc hi h0 h1
    refine Ev.succ ?_
    simp (disch := omega) only [impl_traceIn.l0, if_neg]
    exact Ev.pure (by rw [List.drop_of_length_le (by omega)]; simp [diag])
  | succ d ih =>
    intro i acc hi h0 h1
    refine Ev.succ ?_
    obtain ⟨hl, hx⟩ := hq _ (rdl_mem l i (by omega))
    have hr := rd_range hx i
    simp (disch := omega) only [impl_traceIn.l0, if_pos, rdL1_eq, w64]
    refine Ev.to (ih (i + 1) (acc + rd (rdl l (i : Int)) (i : Int)) (by omega) (by omega) (by omega)) ?_
    rw [drop_rdl l i (by omega), diag]
    congr 1; omega
theorem impl_traceIn.ev (l : List (List Int)) (h : fieldB l = true) : Ev (fun k => impl_traceIn.f k l) ((diag l 0).tmod 10007) := by
  obtain ⟨h1, h2, h3⟩ := fieldB_iff.1 h
  simp only [impl_traceIn.f]
  exact Ev.to (impl_traceIn.ev0 l h2 h3 l.length 0 0 (by omega) (by omega) (by omega)) (by simp)

/-! ### impl_inverseModulo -/
-- use LibChar
theorem impl_inverseModulo.ev0 (f : Nat) : ∀ (out sq e : Int), (0 ≤ out ∧ out ≤ 10006) → (0 ≤ sq ∧ sq ≤ 10006) → 0 ≤ e → e < 2 ^ f → e ≤ 100000 →
    Ev (fun k => impl_inverseModulo.l0 k sq 10007 out e) (invGo f out sq e) := by
  induction f with
  | zero =>
    intro out sq e _ _ h0 h1 _
    refine Ev.succ ?_
    have h1' : e < 1 := h1
    have c1 : ¬ e > 0 := by omega
    simp only [impl_inverseModulo.l0, if_neg c1]
    exact Ev.now _
  | succ f ih =>
    intro out sq e ho hs h0 h1 h2
    refine Ev.succ ?_
    obtain ⟨q0, q1, q2⟩ := half_lt h0 h1
    have m1 := fm_bound (a := 0) (by omega) ho hs
    have m2 := fm_bound (a := 0) (by omega) hs hs
    have w1 := Aside0.mk (w64 (x := out * sq) (by omega) (by omega))
    have w2 := Aside0.mk (w64 (x := sq * sq) (by omega) (by omega))
    have w3 := Aside0.mk (w64 (x := Int.tdiv e 2) (by omega) (by omega))
    have c0 : ¬ (10007 : Int) = 0 := by omega
    by_cases c1 : e > 0
    · by_cases c2 : Int.tmod e 2 = 1
      · simp only [impl_inverseModulo.l0, invGo, if_pos c1, if_pos c2, if_neg c0, w1.out, w2.out, w3.out]
        exact ih _ _ _ (tm_range m1.1) (tm_range m2.1) q0 q1 (by omega)
      · simp only [impl_inverseModulo.l0, invGo, if_pos c1, if_neg c2, if_neg c0, w2.out, w3.out]
        exact ih _ _ _ ho (tm_range m2.1) q0 q1 (by omega)
    · simp only [impl_inverseModulo.l0, invGo, if_neg c1]
      exact Ev.now _
theorem impl_inverseModulo.ev (x : Int) (h : 0 ≤ x ∧ x ≤ 10006) : Ev (fun k => impl_inverseModulo.f k x 10007) (invM x) := by
  have w : wrap64 ((10007 : Int) - 2) = 10005 := w64 (by omega) (by omega)
  simp only [impl_inverseModulo.f, w]
  exact impl_inverseModulo.ev0 14 1 x 10005 (by omega) h (by omega) (by decide) (by omega)

/-! ### impl_CharacteristicOf -/
-- use LibChar
theorem impl_CharacteristicOf.ev1 (n : Nat) (hn : n ≤ 28) (a : List (List Int)) (out : List Int) (k : Nat) (hk' : k ≤ n) (c : Int) (hc : 0 ≤ c ∧ c ≤ 10006) (R : List Int × Int) : ∀ (post pre : List (List Int)), pre.length + post.length = n → (∀ q ∈ post, FR n q) →
    Ev (fun t => impl_CharacteristicOf.l0 t a (n : Int) out (pre ++ addD c pre.length post) ((k + 1 : Nat) : Int)) R →
    Ev (fun t => impl_CharacteristicOf.l1 t a (n : Int) out (pre ++ post) (k : Int) c (n : Int) (pre.length : Int)) R := by
  intro post
  induction post with
  | nil =>
    intro pre hi hq hR
    simp only [List.length_nil, Nat.add_zero] at hi
    refine Ev.succ ?_
    have c1 : ¬ (pre.length : Int) < (n : Int) := by omega
    have w1 := Aside0.mk (w64 (x := (k : Int) + 1) (by omega) (by omega))
    simp only [impl_CharacteristicOf.l1, if_neg c1, w1.out]
    simpa [addD] using hR
  | cons r post ih =>
    intro pre hi hq hR
    simp only [List.length_cons] at hi
    have hr := hq r (by simp)
    have hrl := hr.1
    have h1 := hr.rd pre.length
    refine Ev.succ ?_
    have c1 : (pre.length : Int) < (n : Int) := by omega
    have c2 : 0 ≤ (pre.length : Int) := by omega
    have c3 : (pre.length : Int) < ((pre ++ r :: post).length : Int) := by simp; omega
    have e1 : rdl (pre ++ r :: post) (pre.length : Int) = r := rdl_pre _ _ _ _ rfl
    have c4 : (pre.length : Int) < (r.length : Int) := by omega
    have w1 := Aside0.mk (w64 (x := (pre.length : Int) + 1) (by omega) (by omega))
    have w4 := Aside0.mk (w64 (x := rd r (pre.length : Int) + c) (by omega) (by omega))
    simp only [impl_CharacteristicOf.l1, rdL1_eq, if_pos c1, if_pos c2, if_pos c3, e1, if_pos c4, w1.out, w4.out, Int.toNat_natCast]
    rw [set_pre _ _ _ _ _ rfl]
    have := ih (pre ++ [r.set pre.length ((rd r (pre.length : Int) + c).tmod 10007)]) (by simp; omega) (fun q h => hq q (by simp [h]))
    simp only [List.length_append, List.length_cons, List.length_nil, Int.natCast_add, Int.natCast_one, Nat.zero_add] at this
    refine this ?_
    simpa [addD] using hR
theorem impl_CharacteristicOf.ev0 (n : Nat) (h1 : 1 ≤ n) (hn : n ≤ 28) (a : List (List Int)) (ha : FM n a) : ∀ (d k : Nat) (out : List Int) (N : List (List Int)), k + d = n + 1 → 1 ≤ k → FR (n + 1) out → FM n N →
    Ev (fun t => impl_CharacteristicOf.l0 t a (n : Int) out N (k : Int)) (charGo a n d k out N, 0) := by
  intro d
  induction d with
  | zero =>
    intro k out N hk hk1 ho hw
    refine Ev.succ ?_
    have c1 : ¬ (k : Int) ≤ (n : Int) := by omega
    simp only [impl_CharacteristicOf.l0, if_neg c1]
    exact Ev.now _
  | succ d ih =>
    intro k out N hk hk1 ho hw
    refine Ev.succ ?_
    have c1 : (k : Int) ≤ (n : Int) := by omega
    simp only [impl_CharacteristicOf.l0, if_pos c1]
    refine Ev.bind (impl_multiplyIn.ev n hn a N ha hw) ?_
    have ht2 := timesM_FM ha hw
    have hd := diag_nonneg (timesM n a N) 0 (fun q hq => (ht2.2 q hq).2)
    have b1 := tm_range hd
    have b2 := invM_range (x := (k : Int)) (by omega)
    have b3 := fm_bound (a := 0) (by omega) b1 b2
    have hol := ho.1
    refine Ev.bind (impl_traceIn.ev _ (FM_fieldB h1 hn ht2)) ?_
    refine Ev.bind (impl_inverseModulo.ev (k : Int) (by omega)) ?_
    have b4 : -((diag (timesM n a N) 0).tmod 10007) * invM (k : Int) = -((diag (timesM n a N) 0).tmod 10007 * invM (k : Int)) := Int.neg_mul _ _
    have w1 := Aside0.mk (w64 (x := -((diag (timesM n a N) 0).tmod 10007)) (by omega) (by omega))
    have w2 := Aside0.mk (w64 (x := -((diag (timesM n a N) 0).tmod 10007) * invM (k : Int)) (by omega) (by omega))
    have w3 := Aside0.mk (show wrap64 ((n : Int) - (k : Int)) = ((n - k : Nat) : Int) from (w64 (by omega) (by omega)).trans (by omega))
    have c3 : 0 ≤ ((n - k : Nat) : Int) := by omega
    have c4 : ((n - k : Nat) : Int) < (out.length : Int) := by omega
    have hc := cfM_range (timesM n a N) (k : Int)
    simp only [w1.out, w2.out, impl_inField.eq, Option.bind_some, w3.out, if_pos c3, if_pos c4, Int.toNat_natCast]
    have ev1 := impl_CharacteristicOf.ev1 n hn a (out.set (n - k) (cfM (timesM n a N) (k : Int))) k (by omega) (cfM (timesM n a N) (k : Int)) hc (charGo a n (d + 1) k out N, 0) (timesM n a N) [] (by simpa using ht2.1) ht2.2
    simp only [List.nil_append, List.length_nil, Int.natCast_zero] at ev1
    refine ev1 ?_
    rw [charGo]
    exact ih (k + 1) _ _ (by omega) (by omega) (ho.set _ hc) (addD_FM hc ht2)
theorem impl_CharacteristicOf.ev (a : List (List Int)) (ha : a.length ≤ 1048576) (ha' : ∀ q ∈ a, q.length ≤ 1048576) : Ev (fun t => impl_CharacteristicOf.f t a) (charM a) := by
  simp only [impl_CharacteristicOf.f]
  refine Ev.bind (impl_IsFieldMatrix.ev a ha ha') ?_
  by_cases h : fieldB a = true
  · obtain ⟨h1, h2, hfa⟩ := fieldB_FM h
    have c1 : 0 ≤ ((a.length + 1 : Nat) : Int) := by omega
    have c2 : a.length + 1 ≤ 35184372088832 := by omega
    have w1 := Aside0.mk (show wrap64 ((a.length : Int) + 1) = ((a.length + 1 : Nat) : Int) from (w64 (by omega) (by omega)).trans (by omega))
    have c3 : 0 ≤ (a.length : Int) := by omega
    have c4 : (a.length : Int) < ((List.replicate (a.length + 1) (0 : Int)).length : Int) := by simp; omega
    simp only [if_pos h, w1.out, Int.toNat_natCast, if_pos c1, if_pos c2, Option.bind_some, if_pos c3, if_pos c4]
    refine Ev.bind (impl_unitIn.ev a.length (by omega)) ?_
    refine Ev.to (impl_CharacteristicOf.ev0 a.length h1 h2 a hfa a.length 1 _ _ (by omega) (by omega) ((FR.zeros _).set _ (by omega)) (addD_FM (by omega) (FM.zeros _))) ?_
    simp only [charM, if_pos h]
  · simp only [if_neg h]
    exact Ev.pure (by simp only [charM, if_neg h])

-- says For all rows of numbers the program's CharacteristicOf returns what the reference's returns, keeps its argument and shares no memory; no conditions.
-- row rows
-- hand laws_markInt64SS
-- use LibChar


end Go.Proofs.Ytjpknbjdikkleaa.PureFnExactCharacteristicOf
