/- The program's NewDesk returns what the reference's returns and shares no memory; no conditions. -/
import Derived.Test.YtijafgikehlomaaMFnExactNewDeskx2
import Derived.Test.YtijafgikehlomaaLib
set_option linter.unusedVariables false
set_option linter.unusedSimpArgs false
set_option maxRecDepth 10000
set_option maxHeartbeats 4000000
namespace Go.Proofs.Ytijafgikehlomaa.PureFnExactNewDesk
open Go.RowKit Go.Proofs.Ytijafgikehlomaa.MFnExactNewDesk Go.Proofs.YtijafgikehlomaaW.PrintWords Go.Proofs.Ytijafgikehlomaa.Lib

/-! ### laws_eqInt64S -/
theorem laws_eqInt64S.ev0 (l m : List Int) (hb : l.length ≤ 4611686018427387904) (hlm : l.length = m.length) : ∀ (d i : Nat), i + d = l.length →
    Ev (fun k => laws_eqInt64S.l0 k l m (i : Int)) (decide (l.drop i = m.drop i)) := by
  intro d
  induction d with
  | zero =>
    intro i hi
    refine Ev.succ ?_
    simp (disch := omega) only [laws_eqInt64S.l0, if_neg]
    exact Ev.pure (by rw [List.drop_of_length_le (by omega), List.drop_of_length_le (by omega)]; simp)
  | succ d ih =>
    intro i hi
    refine Ev.succ ?_
    simp (disch := omega) only [laws_eqInt64S.l0, if_pos, w64]
    rw [drop_rd l i (by omega), drop_rd m i (by omega)]
    by_cases h : rd l i = rd m i
    · simp only [if_pos h]
      refine Ev.to (ih (i + 1) (by omega)) (by simp [h])
    · simp only [if_neg h]
      exact Ev.pure (by simp [h])
theorem laws_eqInt64S.ev (l m : List Int) (hb : l.length ≤ 4611686018427387904) : Ev (fun k => laws_eqInt64S.f k l m) (decide (l = m)) := by
  by_cases h : l.length = m.length
  · simp (disch := omega) only [laws_eqInt64S.f, if_pos]
    exact Ev.to (laws_eqInt64S.ev0 l m hb h l.length 0 (by omega)) (by simp)
  · simp (disch := omega) only [laws_eqInt64S.f, if_neg]
    exact Ev.pure (by simp; intro e; exact h (by rw [e]))

/-! ### laws_eqBraid -/
theorem laws_eqBraid.ev (n m : Int) (l s : List Int) (hb : l.length ≤ 4611686018427387904) : Ev (fun k => laws_eqBraid.f k n l m s) (decide (n = m) && decide (l = s)) := by
  simp only [laws_eqBraid.f]
  by_cases h : n = m
  · simp only [if_pos h]
    refine Ev.bind (laws_eqInt64S.ev l s hb) ?_
    by_cases h' : l = s <;> simp [h, h'] <;> exact Ev.now _
  · simp only [if_neg h]
    exact Ev.pure (by simp [h])

/-! ### laws_eqDesk -/
theorem laws_eqDesk.refl (n : Int) (l : List Int) (n' : Int) (l' : List Int) (hb : l.length ≤ 4611686018427387904) (hb' : l'.length ≤ 4611686018427387904) : Ev (fun k => laws_eqDesk.f k n l n' l' n l n' l') true := by
  simp only [laws_eqDesk.f]
  refine Ev.bind (laws_eqBraid.ev n n l l hb) ?_
  simp only [decide_true, Bool.and_self, if_true]
  refine Ev.bind (laws_eqBraid.ev n' n' l' l' hb') ?_
  simp only [decide_true, Bool.and_self, if_true]
  exact Ev.now _

/-! ### laws_markInt64S -/
theorem laws_markInt64S.ev0 (n : Nat) (hb : n ≤ 4611686018427387904) : ∀ (d i : Nat) (acc : List Int) (x : Int), i + d = n → acc.length = n → -4611686018427387904 ≤ x → x + d ≤ 4611686018427387904 →
    Ev (fun k => laws_markInt64S.l0 k acc x (i : Int)) (x + d, acc.take i ++ iota x d) := by
  intro d
  induction d with
  | zero =>
    intro i acc x hi ha h0 h1
    refine Ev.succ ?_
    simp (disch := omega) only [laws_markInt64S.l0, if_neg]
    exact Ev.pure (by rw [List.take_of_length_le (by omega)]; simp [iota])
  | succ d ih =>
    intro i acc x hi ha h0 h1
    refine Ev.succ ?_
    simp (disch := omega) only [laws_markInt64S.l0, if_pos, w64]
    refine Ev.to (ih (i + 1) (acc.set i x) (x + 1) (by omega) (by simpa using ha) (by omega) (by omega)) ?_
    rw [take_set_succ _ _ _ (by omega), List.append_assoc]
    exact Prod.ext (by simp; omega) rfl
theorem laws_markInt64S.ev (l : List Int) (x : Int) (h0 : 0 ≤ x) (h1 : x + l.length ≤ 4611686018427387904) : Ev (fun k => laws_markInt64S.f k l x) (x + l.length, iota x l.length) := by
  simp only [laws_markInt64S.f]
  exact Ev.to (laws_markInt64S.ev0 l.length (by omega) l.length 0 l x (by omega) rfl (by omega) h1) (by simp)

/-! ### laws_markBraid -/
theorem laws_markBraid.ev (n : Int) (l : List Int) (x : Int) (h0 : 0 ≤ x) (h1 : x + l.length ≤ 4611686018427387904) : Ev (fun k => laws_markBraid.f k n l x) (x + l.length, iota x l.length) := by
  simp only [laws_markBraid.f]
  exact Ev.bind (laws_markInt64S.ev l x h0 h1) (Ev.now _)

/-! ### laws_markDesk -/
theorem laws_markDesk.ev (n : Int) (l : List Int) (n' : Int) (l' : List Int) (x : Int) (h0 : 0 ≤ x) (h1 : x + l.length + l'.length ≤ 4611686018427387904) : Ev (fun k => laws_markDesk.f k n l n' l' x) (x + l.length + l'.length, iota x l.length, iota (x + l.length) l'.length) := by
  simp only [laws_markDesk.f]
  exact Ev.bind (laws_markBraid.ev n l x h0 (by omega)) (Ev.bind (laws_markBraid.ev n' l' (x + l.length) (by omega) (by omega)) (Ev.now _))

/-! ### laws_heldInt64S -/
theorem laws_heldInt64S.ev0 (x0 : Int) (n : Nat) (h0 : -4611686018427387904 ≤ x0) (hb : x0 + n ≤ 4611686018427387904) (hn : n ≤ 4611686018427387904) : ∀ (d i : Nat), i + d = n →
    Ev (fun k => laws_heldInt64S.l0 k (iota x0 n) (x0 + i) (i : Int)) (x0 + n) := by
  intro d
  have hl := iota_length x0 n
  induction d with
  | zero =>
    intro i hi
    refine Ev.succ ?_
    simp (disch := omega) only [laws_heldInt64S.l0, if_neg]
    exact Ev.pure (by omega)
  | succ d ih =>
    intro i hi
    refine Ev.succ ?_
    have e := rd_iota n i x0 (by omega)
    simp (disch := omega) only [laws_heldInt64S.l0, if_pos, w64]
    refine Ev.to (Ev.congr (fun k => ?_) (ih (i + 1) (by omega))) rfl
    congr 1
    omega
theorem laws_heldInt64S.ev (x : Int) (n : Nat) (h0 : -4611686018427387904 ≤ x) (h1 : x + n ≤ 4611686018427387904) (hn : n ≤ 4611686018427387904) : Ev (fun k => laws_heldInt64S.f k (iota x n) x) (x + n) := by
  simp only [laws_heldInt64S.f]
  refine Ev.congr (fun k => ?_) (laws_heldInt64S.ev0 x n h0 h1 hn n 0 (by omega))
  simp

/-! ### laws_heldBraid -/
theorem laws_heldBraid.ev (m : Int) (x : Int) (n : Nat) (h0 : 0 ≤ x) (h1 : x + n ≤ 4611686018427387904) (hn : n ≤ 4611686018427387904) : Ev (fun k => laws_heldBraid.f k m (iota x n) x) (x + n) := by
  simp only [laws_heldBraid.f]
  refine Ev.bind (laws_heldInt64S.ev x n (by omega) h1 hn) ?_
  simp (disch := omega) only [if_neg]
  exact Ev.now _

/-! ### laws_heldDesk -/
theorem laws_heldDesk.ev (n n' : Int) (x : Int) (a b : Nat) (h0 : 0 ≤ x) (ha : a ≤ 1000000000000) (hb : b ≤ 1000000000000) (hx : x ≤ 1000000000000) : Ev (fun k => laws_heldDesk.f k n (iota x a) n' (iota (x + a) b) x) (x + a + b) := by
  simp only [laws_heldDesk.f]
  refine Ev.bind (laws_heldBraid.ev n x a h0 (by omega) (by omega)) ?_
  simp (disch := omega) only [if_neg]
  refine Ev.bind (laws_heldBraid.ev n' (x + a) b (by omega) (by omega) (by omega)) ?_
  simp (disch := omega) only [if_neg]
  exact Ev.now _

-- says The program's NewDesk returns what the reference's returns and shares no memory; no conditions.
theorem law : laws_FnExactNewDesk.Pure := by
  have h5 := laws_eqDesk.refl 3 [1] 3 [2] (by decide) (by decide)
  have h6 : Ev (fun k => laws_markDesk.f k 3 [1] 3 [2] 1) (3, [1], [2]) := Ev.to (laws_markDesk.ev 3 [1] 3 [2] 1 (by decide) (by decide)) rfl
  have h7 : Ev (fun k => laws_heldDesk.f k 3 [1] 3 [2] 1) 3 := laws_heldDesk.ev 3 3 1 1 1 (by omega) (by omega) (by omega) (by omega)
  have e1 : spec_NewDesk.f = some (3, [1], 3, [2]) := rfl
  have e2 : impl_NewDesk.f = some (3, [1], 3, [2]) := rfl
  have g1 : ¬ ((3 : Int) < 0) := by decide
  refine Ev.rounds ?_
  show Ev (fun k => laws_FnExactNewDesk.f k) true
  simp only [laws_FnExactNewDesk.f, e1, e2, Option.bind_some]
  (try simp only [laws_FnExactNewDesk.f, g1])
  repeat (first | (with_reducible refine Ev.bind h5 ?_; (try dsimp only)) | (with_reducible refine Ev.bind h6 ?_; (try dsimp only)) | (with_reducible refine Ev.bind h7 ?_; (try dsimp only)) | (simp only [if_true, if_false, eq_self, decide_true, decide_false, Bool.and_self, Bool.true_and, Bool.and_true, bne_self_eq_false, Bool.not_true, Bool.not_false, Bool.false_eq_true, reduceCtorEq, iota_length, g1]))
  exact Ev.now _

end Go.Proofs.Ytijafgikehlomaa.PureFnExactNewDesk
namespace Go.Proofs.Ytijafgikehlomaa.Pure
theorem FnExactNewDesk : Go.Proofs.Ytijafgikehlomaa.MFnExactNewDesk.laws_FnExactNewDesk.Pure := Go.Proofs.Ytijafgikehlomaa.PureFnExactNewDesk.law
end Go.Proofs.Ytijafgikehlomaa.Pure
