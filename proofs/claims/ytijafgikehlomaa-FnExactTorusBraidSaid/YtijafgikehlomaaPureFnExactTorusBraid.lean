/- For all numbers the program's TorusBraid returns what the reference's returns and shares no memory; no conditions. -/
import Derived.Test.YtijafgikehlomaaPFnExactTorusBraidx3
import Derived.Test.YtijafgikehlomaaLib
set_option linter.unusedVariables false
set_option linter.unusedSimpArgs false
set_option maxRecDepth 10000
namespace Go.Proofs.Ytijafgikehlomaa.PureFnExactTorusBraid
open Go.RowKit Go.Proofs.Ytijafgikehlomaa.PFnExactTorusBraid Go.Proofs.YtijafgikehlomaaW.PrintWords Go.Proofs.Ytijafgikehlomaa.Lib

/-! ### laws_eqInt64S -/
theorem laws_eqInt64S.ev0 (l m : List Int) (hb : l.length ≤ 4611686018427387904) (hlm : l.length = m.length) : ∀ (d i : Nat), i + d = l.length →
    Ev (fun k => laws_eqInt64S.l0 k l m (i : Int)) (decide (l.drop i = m.drop i)) := by
  intro d
  induction d with
  | zero =>
    intro i hi
    refine Ev.succ ?_
    simp (disch := omega) only [laws_eqInt64S.l0, if_neg]
    exact Ev.pure (by rw [List.drop_of_length_le (by omega), List.drop_of_length_le (by omega)]; simp)
  | succ d ih =>
    intro i hi
    refine Ev.succ ?_
    simp (disch := omega) only [laws_eqInt64S.l0, if_pos, w64]
    rw [drop_rd l i (by omega), drop_rd m i (by omega)]
    by_cases h : rd l i = rd m i
    · simp only [if_pos h]
      refine Ev.to (ih (i + 1) (by omega)) (by simp [h])
    · simp only [if_neg h]
      exact Ev.pure (by simp [h])
theorem laws_eqInt64S.ev (l m : List Int) (hb : l.length ≤ 4611686018427387904) : Ev (fun k => laws_eqInt64S.f k l m) (decide (l = m)) := by
  by_cases h : l.length = m.length
  · simp (disch := omega) only [laws_eqInt64S.f, if_pos]
    exact Ev.to (laws_eqInt64S.ev0 l m hb h l.length 0 (by omega)) (by simp)
  · simp (disch := omega) only [laws_eqInt64S.f, if_neg]
    exact Ev.pure (by simp; intro e; exact h (by rw [e]))

/-! ### laws_eqBraid -/
theorem laws_eqBraid.ev (n m : Int) (l s : List Int) (hb : l.length ≤ 4611686018427387904) : Ev (fun k => laws_eqBraid.f k n l m s) (decide (n = m) && decide (l = s)) := by
  simp only [laws_eqBraid.f]
  by_cases h : n = m
  · simp only [if_pos h]
    refine Ev.bind (laws_eqInt64S.ev l s hb) ?_
    by_cases h' : l = s <;> simp [h, h'] <;> exact Ev.now _
  · simp only [if_neg h]
    exact Ev.pure (by simp [h])

/-! ### laws_markInt64S -/
theorem laws_markInt64S.ev0 (n : Nat) (hb : n ≤ 4611686018427387904) : ∀ (d i : Nat) (acc : List Int) (x : Int), i + d = n → acc.length = n → -4611686018427387904 ≤ x → x + d ≤ 4611686018427387904 →
    Ev (fun k => laws_markInt64S.l0 k acc x (i : Int)) (x + d, acc.take i ++ iota x d) := by
  intro d
  induction d with
  | zero =>
    intro i acc x hi ha h0 h1
    refine Ev.succ ?_
    simp (disch := omega) only [laws_markInt64S.l0, if_neg]
    exact Ev.pure (by rw [List.take_of_length_le (by omega)]; simp [iota])
  | succ d ih =>
    intro i acc x hi ha h0 h1
    refine Ev.succ ?_
    simp (disch := omega) only [laws_markInt64S.l0, if_pos, w64]
    refine Ev.to (ih (i + 1) (acc.set i x) (x + 1) (by omega) (by simpa using ha) (by omega) (by omega)) ?_
    rw [take_set_succ _ _ _ (by omega), List.append_assoc]
    exact Prod.ext (by simp; omega) rfl
theorem laws_markInt64S.ev (l : List Int) (x : Int) (h0 : 0 ≤ x) (h1 : x + l.length ≤ 4611686018427387904) : Ev (fun k => laws_markInt64S.f k l x) (x + l.length, iota x l.length) := by
  simp only [laws_markInt64S.f]
  exact Ev.to (laws_markInt64S.ev0 l.length (by omega) l.length 0 l x (by omega) rfl (by omega) h1) (by simp)

/-! ### laws_markBraid -/
theorem laws_markBraid.ev (n : Int) (l : List Int) (x : Int) (h0 : 0 ≤ x) (h1 : x + l.length ≤ 4611686018427387904) : Ev (fun k => laws_markBraid.f k n l x) (x + l.length, iota x l.length) := by
  simp only [laws_markBraid.f]
  exact Ev.bind (laws_markInt64S.ev l x h0 h1) (Ev.now _)

/-! ### laws_heldInt64S -/
theorem laws_heldInt64S.ev0 (x0 : Int) (n : Nat) (h0 : -4611686018427387904 ≤ x0) (hb : x0 + n ≤ 4611686018427387904) (hn : n ≤ 4611686018427387904) : ∀ (d i : Nat), i + d = n →
    Ev (fun k => laws_heldInt64S.l0 k (iota x0 n) (x0 + i) (i : Int)) (x0 + n) := by
  intro d
  have hl := iota_length x0 n
  induction d with
  | zero =>
    intro i hi
    refine Ev.succ ?_
    simp (disch := omega) only [laws_heldInt64S.l0, if_neg]
    exact Ev.pure (by omega)
  | succ d ih =>
    intro i hi
    refine Ev.succ ?_
    have e := rd_iota n i x0 (by omega)
    simp (disch := omega) only [laws_heldInt64S.l0, if_pos, w64]
    refine Ev.to (Ev.congr (fun k => ?_) (ih (i + 1) (by omega))) rfl
    congr 1
    omega
theorem laws_heldInt64S.ev (x : Int) (n : Nat) (h0 : -4611686018427387904 ≤ x) (h1 : x + n ≤ 4611686018427387904) (hn : n ≤ 4611686018427387904) : Ev (fun k => laws_heldInt64S.f k (iota x n) x) (x + n) := by
  simp only [laws_heldInt64S.f]
  refine Ev.congr (fun k => ?_) (laws_heldInt64S.ev0 x n h0 h1 hn n 0 (by omega))
  simp

/-! ### laws_heldBraid -/
theorem laws_heldBraid.ev (m : Int) (x : Int) (n : Nat) (h0 : 0 ≤ x) (h1 : x + n ≤ 4611686018427387904) (hn : n ≤ 4611686018427387904) : Ev (fun k => laws_heldBraid.f k m (iota x n) x) (x + n) := by
  simp only [laws_heldBraid.f]
  refine Ev.bind (laws_heldInt64S.ev x n (by omega) h1 hn) ?_
  simp (disch := omega) only [if_neg]
  exact Ev.now _

/-! ### spec_l01In -/
theorem spec_l01In.eq (a lo hi : Int) : spec_l01In.f a lo hi = some (inB a lo hi) := by
  unfold spec_l01In.f inB
  by_cases h : lo ≤ a <;> simp [h]

/-! ### spec_TorusBraid -/
theorem spec_TorusBraid.ev0 (p : Int) (hp : 1 ≤ p ∧ p ≤ 8) : ∀ (n : Nat) (acc : List Int), n ≤ 200 → acc.length + n * 8 ≤ 100000 →
    Ev (fun k => spec_TorusBraid.l0 k p (n : Int) p acc) (p, acc ++ manyUp p n, 0) := by
  intro n
  induction n with
  | zero =>
    intro acc hn ha
    refine Ev.succ ?_
    simp (disch := omega) only [spec_TorusBraid.l0, if_neg]
    exact Ev.pure (by simp [manyUp])
  | succ n ih =>
    intro acc hn ha
    refine Ev.succ ?_
    simp (disch := omega) only [spec_TorusBraid.l0, if_pos]
    have key : ∀ (d : Nat) (x : Int) (acc : List Int), 1 ≤ x → x + d = p → acc.length + d + n * 8 ≤ 100000 →
        Ev (fun k => spec_TorusBraid.l1 k p ((n + 1 : Nat) : Int) x p acc) (p, acc ++ (upTo x d ++ manyUp p n), 0) := by
      intro d
      induction d with
      | zero =>
        intro x acc hx hd hb
        refine Ev.succ ?_
        have e : wrap64 (((n + 1 : Nat) : Int) - 1) = (n : Int) := by rw [w64 (by omega) (by omega)]; omega
        simp (disch := omega) only [spec_TorusBraid.l1, if_neg, e]
        exact Ev.to (ih acc (by omega) (by omega)) (by simp [upTo])
      | succ d ihd =>
        intro x acc hx hd hb
        refine Ev.succ ?_
        simp (disch := omega) only [spec_TorusBraid.l1, if_pos, w64]
        exact Ev.to (ihd (x + 1) (acc ++ [x]) (by omega) (by omega) (by simp <;> omega)) (by simp [upTo])
    refine Ev.to (key (p - 1).toNat 1 acc (by omega) (by omega) (by omega)) (by simp [manyUp])
theorem spec_TorusBraid.ev (p q : Int) : Ev (fun k => spec_TorusBraid.f k p q) (torusM p q) := by
  simp only [spec_TorusBraid.f, spec_l01In.eq, Option.bind_some]
  unfold torusM
  by_cases hp : 1 ≤ p ∧ p ≤ 8
  · have e1 : inB p 1 8 = true := inB_iff.2 hp
    simp only [e1, if_true]
    refine Ev.succ ?_
    simp only [spec_TorusBraid.j0]
    by_cases hq : 0 ≤ q ∧ q ≤ 200
    · have e2 : inB q 0 200 = true := inB_iff.2 hq
      have hm := mul_bd p q hp hq
      have w1 : wrap64 (p - 1) = p - 1 := w64 (by omega) (by omega)
      have w2 : wrap64 ((p - 1) * q) = (p - 1) * q := w64 (by omega) (by omega)
      rw [if_pos (show (1 ≤ p ∧ p ≤ 8) ∧ 0 ≤ q ∧ q ≤ 200 from ⟨hp, hq⟩)]
      simp only [e2, Bool.not_true, Bool.false_eq_true, if_false, w1, w2]
      by_cases hb : (p - 1) * q > 200
      · simp only [if_pos hb]; exact Ev.now _
      · simp only [if_neg hb]
        have := spec_TorusBraid.ev0 p hp q.toNat [] (by omega) (by simp; omega)
        rw [Int.toNat_of_nonneg hq.1] at this
        exact Ev.to this (by simp)
    · have e2 : inB q 0 200 = false := inB_not.2 hq
      simp only [e2, Bool.not_false, if_true]
      exact Ev.pure (by rw [if_neg (by omega)])
  · have e1 : inB p 1 8 = false := inB_not.2 hp
    simp only [e1, Bool.false_eq_true, if_false]
    refine Ev.succ ?_
    simp only [spec_TorusBraid.j0, if_true]
    exact Ev.pure (by rw [if_neg (by omega)])

/-! ### impl_within -/
theorem impl_within.eq (a lo hi : Int) : impl_within.f a lo hi = some (inB a lo hi) := by
  unfold impl_within.f inB
  by_cases h : lo ≤ a <;> simp [h]

/-! ### impl_isCount -/
theorem impl_isCount.eq (a : Int) : impl_isCount.f a = some (inB a 1 8) := by simp only [impl_isCount.f, impl_within.eq, Option.bind_some]

/-! ### impl_isLetter -/
theorem impl_isLetter.eq (x n : Int) (h1 : 1 ≤ n) (h8 : n ≤ 8) : impl_isLetter.f x n = some (letterB n x) := by
  simp (disch := omega) only [impl_isLetter.f, impl_within.eq, Option.bind_some, w64]
  unfold letterB
  split <;> simp_all

/-! ### impl_IsBraid -/
theorem impl_IsBraid.ev0 (n : Int) (l : List Int) (h1 : 1 ≤ n) (h8 : n ≤ 8) (hb : l.length ≤ 200) : ∀ (d i : Nat), i + d = l.length →
    Ev (fun k => impl_IsBraid.l0 k l (l.length : Int) (i : Int) n l) ((l.drop i).all (letterB n)) := by
  intro d
  induction d with
  | zero =>
    intro i hi
    refine Ev.succ ?_
    simp (disch := omega) only [impl_IsBraid.l0, if_neg]
    exact Ev.pure (by rw [List.drop_of_length_le (by omega)]; rfl)
  | succ d ih =>
    intro i hi
    refine Ev.succ ?_
    simp (disch := omega) only [impl_IsBraid.l0, if_pos, w64, impl_isLetter.eq, Option.bind_some]
    rw [drop_rd l i (by omega), List.all_cons]
    cases h : letterB n (rd l i) with
    | true => simp only [if_true, Bool.true_and]; exact ih (i + 1) (by omega)
    | false => exact Ev.pure (by simp)
theorem impl_IsBraid.ev (n : Int) (l : List Int) : Ev (fun k => impl_IsBraid.f k n l) (isBraidB n l) := by
  simp only [impl_IsBraid.f, impl_isCount.eq, Option.bind_some]
  unfold isBraidB
  cases hn : inB n 1 8 with
  | false =>
    refine Ev.succ ?_
    simp [impl_IsBraid.j0]
    exact Ev.now _
  | true =>
    obtain ⟨h1, h8⟩ := inB_iff.1 hn
    refine Ev.succ ?_
    simp only [if_true, impl_IsBraid.j0, Bool.true_and]
    by_cases hl : l.length ≤ 200
    · have : ¬ ((l.length : Int) > 200) := by omega
      simp only [this, decide_false, Bool.false_eq_true, if_false, hl, decide_true, Bool.true_and]
      exact Ev.to (impl_IsBraid.ev0 n l h1 h8 hl l.length 0 (by omega)) (by simp)
    · have : ((l.length : Int) > 200) := by omega
      simp only [this, decide_true, if_true, hl, decide_false, Bool.false_and]
      exact Ev.now _

/-! ### impl_limitedBraid -/
theorem impl_limitedBraid.ev (n : Int) (l : List Int) : Ev (fun k => impl_limitedBraid.f k n l) (limM n l) := by
  simp only [impl_limitedBraid.f]
  refine Ev.bind (impl_IsBraid.ev n l) ?_
  unfold limM
  split <;> exact Ev.now _

/-! ### impl_TorusBraid -/
theorem impl_TorusBraid.ev0 (p q : Int) (hp : 1 ≤ p ∧ p ≤ 8) (hq : 0 ≤ q ∧ q ≤ 200) : ∀ (n : Nat) (i : Int) (acc : List Int), i + n = q → 0 ≤ i → acc.length + n * 8 ≤ 100000 →
    Ev (fun k => impl_TorusBraid.l0 k p q i p acc) (limM p (acc ++ manyUp p n)) := by
  intro n
  induction n with
  | zero =>
    intro i acc hn hi ha
    refine Ev.succ ?_
    simp (disch := omega) only [impl_TorusBraid.l0, if_neg]
    refine Ev.bind (impl_limitedBraid.ev p acc) ?_
    exact Ev.pure (by simp [manyUp])
  | succ n ih =>
    intro i acc hn hi ha
    refine Ev.succ ?_
    simp (disch := omega) only [impl_TorusBraid.l0, if_pos]
    have key : ∀ (d : Nat) (x : Int) (acc : List Int), 1 ≤ x → x + d = p → acc.length + d + n * 8 ≤ 100000 →
        Ev (fun k => impl_TorusBraid.l1 k p x q i p acc) (limM p (acc ++ (upTo x d ++ manyUp p n))) := by
      intro d
      induction d with
      | zero =>
        intro x acc hx hd hb
        refine Ev.succ ?_
        simp (disch := omega) only [impl_TorusBraid.l1, if_neg, w64]
        exact Ev.to (ih (i + 1) acc (by omega) (by omega) (by omega)) (by simp [upTo])
      | succ d ihd =>
        intro x acc hx hd hb
        refine Ev.succ ?_
        simp (disch := omega) only [impl_TorusBraid.l1, if_pos, w64]
        exact Ev.to (ihd (x + 1) (acc ++ [x]) (by omega) (by omega) (by simp <;> omega)) (by simp [upTo])
    refine Ev.to (key (p - 1).toNat 1 acc (by omega) (by omega) (by omega)) (by simp [manyUp])
theorem impl_TorusBraid.ev (p q : Int) : Ev (fun k => impl_TorusBraid.f k p q) (torusM p q) := by
  simp only [impl_TorusBraid.f, impl_isCount.eq, impl_within.eq, Option.bind_some]
  unfold torusM
  by_cases hp : 1 ≤ p ∧ p ≤ 8
  · have e1 : inB p 1 8 = true := inB_iff.2 hp
    simp only [e1, if_true]
    refine Ev.succ ?_
    simp only [impl_TorusBraid.j0]
    by_cases hq : 0 ≤ q ∧ q ≤ 200
    · have e2 : inB q 0 200 = true := inB_iff.2 hq
      have hm := mul_bd p q hp hq
      have hl := manyUp_len p q hp hq
      rw [if_pos (show (1 ≤ p ∧ p ≤ 8) ∧ 0 ≤ q ∧ q ≤ 200 from ⟨hp, hq⟩)]
      simp only [e2, Bool.not_true, Bool.false_eq_true, if_false]
      refine Ev.to (impl_TorusBraid.ev0 p q hp hq q.toNat 0 [] (by omega) (by omega) (by simp; omega)) ?_
      simp only [List.nil_append, limM]
      by_cases hb : (p - 1) * q > 200
      · rw [if_pos hb, if_neg]
        intro h
        have := (isBraidB_iff.1 h).2.1
        omega
      · rw [if_neg hb, if_pos]
        exact isBraidB_iff.2 ⟨hp, by omega, fun x hx => by have := manyUp_mem hp.1 hx; omega⟩
    · have e2 : inB q 0 200 = false := inB_not.2 hq
      simp only [e2, Bool.not_false, if_true]
      exact Ev.pure (by rw [if_neg (by omega)])
  · have e1 : inB p 1 8 = false := inB_not.2 hp
    simp only [e1, Bool.false_eq_true, if_false]
    refine Ev.succ ?_
    simp only [impl_TorusBraid.j0, if_true]
    exact Ev.pure (by rw [if_neg (by omega)])

-- says For all numbers the program's TorusBraid returns what the reference's returns and shares no memory; no conditions.
theorem law : laws_FnExactTorusBraid.Pure := by
  intro p q hp hq
  obtain ⟨m, r, c, hr, hrl⟩ : ∃ m r c, torusM p q = (m, r, c) ∧ r.length ≤ 200 := ⟨_, _, _, rfl, torusM_length p q⟩
  have h2 := spec_TorusBraid.ev p q
  have h3 := impl_TorusBraid.ev p q
  rw [hr] at h2 h3
  have h5 := laws_eqBraid.ev m m r r (by omega)
  have h7 := laws_markBraid.ev m r 1 (by omega) (by omega)
  have h8 := laws_heldBraid.ev m 1 r.length (by omega) (by omega) (by omega)
  have g2 : ¬ (1 + (r.length : Int) < 0) := by omega
  refine Ev.rounds ?_
  simp only [laws_FnExactTorusBraid.f, g2]
  repeat (first | (with_reducible refine Ev.bind h2 ?_; (try dsimp only)) | (with_reducible refine Ev.bind h3 ?_; (try dsimp only)) | (with_reducible refine Ev.bind h5 ?_; (try dsimp only)) | (with_reducible refine Ev.bind h7 ?_; (try dsimp only)) | (with_reducible refine Ev.bind h8 ?_; (try dsimp only)) | (simp only [if_true, if_false, eq_self, decide_true, decide_false, Bool.and_self, Bool.true_and, Bool.and_true, bne_self_eq_false, Bool.not_true, Bool.not_false, Bool.false_eq_true, reduceCtorEq, iota_length, g2]))
  refine Ev.succ ?_
  simp only [laws_FnExactTorusBraid.j0]
  repeat (first | (with_reducible refine Ev.bind h2 ?_; (try dsimp only)) | (with_reducible refine Ev.bind h3 ?_; (try dsimp only)) | (with_reducible refine Ev.bind h5 ?_; (try dsimp only)) | (with_reducible refine Ev.bind h7 ?_; (try dsimp only)) | (with_reducible refine Ev.bind h8 ?_; (try dsimp only)) | (simp only [if_true, if_false, eq_self, decide_true, decide_false, Bool.and_self, Bool.true_and, Bool.and_true, bne_self_eq_false, Bool.not_true, Bool.not_false, Bool.false_eq_true, reduceCtorEq, iota_length, g2]))
  refine Ev.succ ?_
  simp only [laws_FnExactTorusBraid.j1]
  repeat (first | (with_reducible refine Ev.bind h2 ?_; (try dsimp only)) | (with_reducible refine Ev.bind h3 ?_; (try dsimp only)) | (with_reducible refine Ev.bind h5 ?_; (try dsimp only)) | (with_reducible refine Ev.bind h7 ?_; (try dsimp only)) | (with_reducible refine Ev.bind h8 ?_; (try dsimp only)) | (simp only [if_true, if_false, eq_self, decide_true, decide_false, Bool.and_self, Bool.true_and, Bool.and_true, bne_self_eq_false, Bool.not_true, Bool.not_false, Bool.false_eq_true, reduceCtorEq, iota_length, g2]))
  exact Ev.now _

end Go.Proofs.Ytijafgikehlomaa.PureFnExactTorusBraid
namespace Go.Proofs.Ytijafgikehlomaa.Pure
theorem FnExactTorusBraid : Go.Proofs.Ytijafgikehlomaa.PFnExactTorusBraid.laws_FnExactTorusBraid.Pure := Go.Proofs.Ytijafgikehlomaa.PureFnExactTorusBraid.law
end Go.Proofs.Ytijafgikehlomaa.Pure
