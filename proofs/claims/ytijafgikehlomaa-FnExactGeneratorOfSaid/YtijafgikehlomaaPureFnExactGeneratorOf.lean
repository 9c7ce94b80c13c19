/- For all numbers the program's GeneratorOf returns what the reference's returns and shares no memory; no conditions. -/
import Derived.Test.YtijafgikehlomaaPFnExactGeneratorOfx2
import Derived.Test.YtijafgikehlomaaLib
set_option linter.unusedVariables false
set_option linter.unusedSimpArgs false
set_option maxRecDepth 10000
namespace Go.Proofs.Ytijafgikehlomaa.PureFnExactGeneratorOf
open Go.RowKit Go.Proofs.Ytijafgikehlomaa.PFnExactGeneratorOf Go.Proofs.YtijafgikehlomaaW.PrintWords Go.Proofs.YtijafgikehlomaaW.PrintLast Go.Proofs.YtijafgikehlomaaW.PrintMore Go.Proofs.Ytijafgikehlomaa.Lib

/-! ### spec_l01In -/
theorem spec_l01In.eq (a lo hi : Int) : spec_l01In.f a lo hi = some (inB a lo hi) := by
  unfold spec_l01In.f inB
  by_cases h : lo ≤ a <;> simp [h]

/-! ### spec_l10Generator -/
theorem spec_l10Generator.ev1 (j : Int) (hj : j ≤ 7) : ∀ (d : Nat) (acc : List Int) (x : Int), 0 ≤ x → j + 1 - x ≤ d → d ≤ 20 → (d = 0 ∨ x + d = j + 1) → acc.length ≤ 1000 - d →
    Ev (fun k => spec_l10Generator.l1 k j acc x) (acc ++ negUp x d) := by
  intro d
  induction d with
  | zero =>
    intro acc x h0 h1 hd hx ha
    refine Ev.succ ?_
    simp (disch := omega) only [spec_l10Generator.l1, if_neg]
    exact Ev.pure (by simp [negUp])
  | succ d ih =>
    intro acc x h0 h1 hd hx ha
    refine Ev.succ ?_
    simp (disch := omega) only [spec_l10Generator.l1, if_pos, w64]
    refine Ev.to (ih (acc ++ [-x]) (x + 1) (by omega) (by omega) (by omega) (by omega) (by simp <;> omega)) (by simp [negUp])
theorem spec_l10Generator.ev0 (i j : Int) (h0 : 0 ≤ i) (hij : i < j) (hj : j ≤ 7) : ∀ (d : Nat) (acc : List Int) (x : Int), x = i + 1 + d → d ≤ 20 → acc.length ≤ 900 - d →
    Ev (fun k => spec_l10Generator.l0 k i j acc x) (acc ++ (down x d ++ ([i + 1, i + 1] ++ negUp (i + 2) (j - i - 1).toNat))) := by
  intro d
  induction d with
  | zero =>
    intro acc x hx hd ha
    refine Ev.succ ?_
    simp (disch := omega) only [spec_l10Generator.l0, if_neg, if_pos, w64, Option.bind_some, List.length_cons, List.length_nil]
    exact Ev.to (spec_l10Generator.ev1 j hj (j - i - 1).toNat (acc ++ [i + 1, i + 1]) (i + 2) (by omega) (by omega) (by omega) (by omega) (by simp <;> omega)) (by simp [down])
  | succ d ih =>
    intro acc x hx hd ha
    refine Ev.succ ?_
    simp (disch := omega) only [spec_l10Generator.l0, if_pos, w64]
    exact Ev.to (ih (acc ++ [x]) (x - 1) (by omega) (by omega) (by simp <;> omega)) (by simp [down])
theorem spec_l10Generator.ev (i j : Int) (h0 : 0 ≤ i) (hij : i < j) (hj : j ≤ 7) : Ev (fun k => spec_l10Generator.f k i j) (genW i j) := by
  simp only [spec_l10Generator.f]
  exact Ev.to (spec_l10Generator.ev0 i j h0 hij hj (j - i - 1).toNat [] j (by omega) (by omega) (by simp <;> omega)) (by simp [genW])

/-! ### spec_GeneratorOf -/
theorem spec_GeneratorOf.ev (n i j : Int) (hj : -9223372036854775808 ≤ j ∧ j ≤ 9223372036854775807) : Ev (fun k => spec_GeneratorOf.f k n i j) (genOfM n i j) := by
  simp only [spec_GeneratorOf.f, spec_l01In.eq, Option.bind_some]
  unfold genOfM
  by_cases hn : 2 ≤ n ∧ n ≤ 8
  · have e1 : inB n 2 8 = true := inB_iff.2 hn
    have w1 : wrap64 (n - 1) = n - 1 := w64 (by omega) (by omega)
    simp only [e1, if_true, w1]
    by_cases h2 : 1 ≤ j ∧ j ≤ n - 1
    · have e2 : inB j 1 (n - 1) = true := inB_iff.2 h2
      have w2 : wrap64 (j - 1) = j - 1 := w64 (by omega) (by omega)
      simp only [e2, if_true, w2]
      by_cases h3 : 0 ≤ i ∧ i ≤ j - 1
      · have e3 : inB i 0 (j - 1) = true := inB_iff.2 h3
        simp only [e3, if_true]
        refine Ev.bind (spec_l10Generator.ev i j (by omega) (by omega) (by omega)) ?_
        exact Ev.pure (by rw [if_pos (by omega)])
      · have e3 : inB i 0 (j - 1) = false := inB_not.2 h3
        simp only [e3, Bool.false_eq_true, if_false]
        exact Ev.pure (by rw [if_neg (by omega)])
    · have e2 : inB j 1 (n - 1) = false := inB_not.2 h2
      simp only [e2, Bool.false_eq_true, if_false]
      exact Ev.pure (by rw [if_neg (by omega)])
  · have e1 : inB n 2 8 = false := inB_not.2 hn
    simp only [e1, Bool.false_eq_true, if_false]
    exact Ev.pure (by rw [if_neg (by omega)])

/-! ### impl_within -/
theorem impl_within.eq (a lo hi : Int) : impl_within.f a lo hi = some (inB a lo hi) := by
  unfold impl_within.f inB
  by_cases h : lo ≤ a <;> simp [h]

/-! ### impl_generator -/
theorem impl_generator.ev1 (j : Int) (hj : j ≤ 7) : ∀ (d : Nat) (acc : List Int) (x : Int), 0 ≤ x → j + 1 - x ≤ d → d ≤ 20 → (d = 0 ∨ x + d = j + 1) → acc.length ≤ 1000 - d →
    Ev (fun k => impl_generator.l1 k j acc x) (acc ++ negUp x d) := by
  intro d
  induction d with
  | zero =>
    intro acc x h0 h1 hd hx ha
    refine Ev.succ ?_
    simp (disch := omega) only [impl_generator.l1, if_neg]
    exact Ev.pure (by simp [negUp])
  | succ d ih =>
    intro acc x h0 h1 hd hx ha
    refine Ev.succ ?_
    simp (disch := omega) only [impl_generator.l1, if_pos, w64]
    refine Ev.to (ih (acc ++ [-x]) (x + 1) (by omega) (by omega) (by omega) (by omega) (by simp <;> omega)) (by simp [negUp])
theorem impl_generator.ev0 (i j : Int) (h0 : 0 ≤ i) (hij : i < j) (hj : j ≤ 7) : ∀ (d : Nat) (acc : List Int) (x : Int), x = i + d → d ≤ 20 → acc.length ≤ 900 - d →
    Ev (fun k => impl_generator.l0 k i j acc x) (acc ++ (down x d ++ ([i + 1] ++ negUp (i + 2) (j - i - 1).toNat))) := by
  intro d
  induction d with
  | zero =>
    intro acc x hx hd ha
    refine Ev.succ ?_
    simp (disch := omega) only [impl_generator.l0, if_neg, if_pos, w64]
    exact Ev.to (impl_generator.ev1 j hj (j - i - 1).toNat (acc ++ [i + 1]) (i + 2) (by omega) (by omega) (by omega) (by omega) (by simp <;> omega)) (by simp [down])
  | succ d ih =>
    intro acc x hx hd ha
    refine Ev.succ ?_
    simp (disch := omega) only [impl_generator.l0, if_pos, w64]
    exact Ev.to (ih (acc ++ [x]) (x - 1) (by omega) (by omega) (by simp <;> omega)) (by simp [down])
theorem impl_generator.ev (i j : Int) (h0 : 0 ≤ i) (hij : i < j) (hj : j ≤ 7) : Ev (fun k => impl_generator.f k i j) (genW i j) := by
  simp only [impl_generator.f]
  refine Ev.to (impl_generator.ev0 i j h0 hij hj ((j - i - 1).toNat + 1) [] j (by omega) (by omega) (by simp <;> omega)) ?_
  rw [down_snoc, genW, show (j - ((j - i - 1).toNat : Int)) = i + 1 from by omega]
  simp

/-! ### impl_GeneratorOf -/
theorem impl_GeneratorOf.ev (n i j : Int) (hj : -9223372036854775808 ≤ j ∧ j ≤ 9223372036854775807) : Ev (fun k => impl_GeneratorOf.f k n i j) (genOfM n i j) := by
  simp only [impl_GeneratorOf.f, impl_within.eq, Option.bind_some]
  unfold genOfM
  by_cases hn : 2 ≤ n ∧ n ≤ 8
  · have e1 : inB n 2 8 = true := inB_iff.2 hn
    have w1 : wrap64 (n - 1) = n - 1 := w64 (by omega) (by omega)
    simp only [e1, if_true, w1]
    by_cases h2 : 0 ≤ j ∧ j ≤ n - 1
    · have e2 : inB j 0 (n - 1) = true := inB_iff.2 h2
      have w2 : wrap64 (j - 1) = j - 1 := w64 (by omega) (by omega)
      simp only [e2, if_true, w2]
      by_cases h3 : 0 ≤ i ∧ i ≤ j - 1
      · have e3 : inB i 0 (j - 1) = true := inB_iff.2 h3
        simp only [e3, if_true]
        refine Ev.bind (impl_generator.ev i j (by omega) (by omega) (by omega)) ?_
        exact Ev.pure (by rw [if_pos (by omega)])
      · have e3 : inB i 0 (j - 1) = false := inB_not.2 h3
        simp only [e3, Bool.false_eq_true, if_false]
        exact Ev.pure (by rw [if_neg (by omega)])
    · have e2 : inB j 0 (n - 1) = false := inB_not.2 h2
      simp only [e2, Bool.false_eq_true, if_false]
      exact Ev.pure (by rw [if_neg (by omega)])
  · have e1 : inB n 2 8 = false := inB_not.2 hn
    simp only [e1, Bool.false_eq_true, if_false]
    exact Ev.pure (by rw [if_neg (by omega)])

/-! ### laws_eqInt64S -/
theorem laws_eqInt64S.ev0 (l m : List Int) (hb : l.length ≤ 4611686018427387904) (hlm : l.length = m.length) : ∀ (d i : Nat), i + d = l.length →
    Ev (fun k => laws_eqInt64S.l0 k l m (i : Int)) (decide (l.drop i = m.drop i)) := by
  intro d
  induction d with
  | zero =>
    intro i hi
    refine Ev.succ ?_
    simp (disch := omega) only [laws_eqInt64S.l0, if_neg]
    exact Ev.pure (by rw [List.drop_of_length_le (by omega), List.drop_of_length_le (by omega)]; simp)
  | succ d ih =>
    intro i hi
    refine Ev.succ ?_
    simp (disch := omega) only [laws_eqInt64S.l0, if_pos, w64]
    rw [drop_rd l i (by omega), drop_rd m i (by omega)]
    by_cases h : rd l i = rd m i
    · simp only [if_pos h]
      refine Ev.to (ih (i + 1) (by omega)) (by simp [h])
    · simp only [if_neg h]
      exact Ev.pure (by simp [h])
theorem laws_eqInt64S.ev (l m : List Int) (hb : l.length ≤ 4611686018427387904) : Ev (fun k => laws_eqInt64S.f k l m) (decide (l = m)) := by
  by_cases h : l.length = m.length
  · simp (disch := omega) only [laws_eqInt64S.f, if_pos]
    exact Ev.to (laws_eqInt64S.ev0 l m hb h l.length 0 (by omega)) (by simp)
  · simp (disch := omega) only [laws_eqInt64S.f, if_neg]
    exact Ev.pure (by simp; intro e; exact h (by rw [e]))

/-! ### laws_eqBraid -/
theorem laws_eqBraid.ev (n m : Int) (l s : List Int) (hb : l.length ≤ 4611686018427387904) : Ev (fun k => laws_eqBraid.f k n l m s) (decide (n = m) && decide (l = s)) := by
  simp only [laws_eqBraid.f]
  by_cases h : n = m
  · simp only [if_pos h]
    refine Ev.bind (laws_eqInt64S.ev l s hb) ?_
    by_cases h' : l = s <;> simp [h, h'] <;> exact Ev.now _
  · simp only [if_neg h]
    exact Ev.pure (by simp [h])

/-! ### laws_markInt64S -/
theorem laws_markInt64S.ev0 (n : Nat) (hb : n ≤ 4611686018427387904) : ∀ (d i : Nat) (acc : List Int) (x : Int), i + d = n → acc.length = n → -4611686018427387904 ≤ x → x + d ≤ 4611686018427387904 →
    Ev (fun k => laws_markInt64S.l0 k acc x (i : Int)) (x + d, acc.take i ++ iota x d) := by
  intro d
  induction d with
  | zero =>
    intro i acc x hi ha h0 h1
    refine Ev.succ ?_
    simp (disch := omega) only [laws_markInt64S.l0, if_neg]
    exact Ev.pure (by rw [List.take_of_length_le (by omega)]; simp [iota])
  | succ d ih =>
    intro i acc x hi ha h0 h1
    refine Ev.succ ?_
    simp (disch := omega) only [laws_markInt64S.l0, if_pos, w64]
    refine Ev.to (ih (i + 1) (acc.set i x) (x + 1) (by omega) (by simpa using ha) (by omega) (by omega)) ?_
    rw [take_set_succ _ _ _ (by omega), List.append_assoc]
    exact Prod.ext (by simp; omega) rfl
theorem laws_markInt64S.ev (l : List Int) (x : Int) (h0 : 0 ≤ x) (h1 : x + l.length ≤ 4611686018427387904) : Ev (fun k => laws_markInt64S.f k l x) (x + l.length, iota x l.length) := by
  simp only [laws_markInt64S.f]
  exact Ev.to (laws_markInt64S.ev0 l.length (by omega) l.length 0 l x (by omega) rfl (by omega) h1) (by simp)

/-! ### laws_markBraid -/
theorem laws_markBraid.ev (n : Int) (l : List Int) (x : Int) (h0 : 0 ≤ x) (h1 : x + l.length ≤ 4611686018427387904) : Ev (fun k => laws_markBraid.f k n l x) (x + l.length, iota x l.length) := by
  simp only [laws_markBraid.f]
  exact Ev.bind (laws_markInt64S.ev l x h0 h1) (Ev.now _)

/-! ### laws_heldInt64S -/
theorem laws_heldInt64S.ev0 (x0 : Int) (n : Nat) (h0 : -4611686018427387904 ≤ x0) (hb : x0 + n ≤ 4611686018427387904) (hn : n ≤ 4611686018427387904) : ∀ (d i : Nat), i + d = n →
    Ev (fun k => laws_heldInt64S.l0 k (iota x0 n) (x0 + i) (i : Int)) (x0 + n) := by
  intro d
  have hl := iota_length x0 n
  induction d with
  | zero =>
    intro i hi
    refine Ev.succ ?_
    simp (disch := omega) only [laws_heldInt64S.l0, if_neg]
    exact Ev.pure (by omega)
  | succ d ih =>
    intro i hi
    refine Ev.succ ?_
    have e := rd_iota n i x0 (by omega)
    simp (disch := omega) only [laws_heldInt64S.l0, if_pos, w64]
    refine Ev.to (Ev.congr (fun k => ?_) (ih (i + 1) (by omega))) rfl
    congr 1
    omega
theorem laws_heldInt64S.ev (x : Int) (n : Nat) (h0 : -4611686018427387904 ≤ x) (h1 : x + n ≤ 4611686018427387904) (hn : n ≤ 4611686018427387904) : Ev (fun k => laws_heldInt64S.f k (iota x n) x) (x + n) := by
  simp only [laws_heldInt64S.f]
  refine Ev.congr (fun k => ?_) (laws_heldInt64S.ev0 x n h0 h1 hn n 0 (by omega))
  simp

/-! ### laws_heldBraid -/
theorem laws_heldBraid.ev (m : Int) (x : Int) (n : Nat) (h0 : 0 ≤ x) (h1 : x + n ≤ 4611686018427387904) (hn : n ≤ 4611686018427387904) : Ev (fun k => laws_heldBraid.f k m (iota x n) x) (x + n) := by
  simp only [laws_heldBraid.f]
  refine Ev.bind (laws_heldInt64S.ev x n (by omega) h1 hn) ?_
  simp (disch := omega) only [if_neg]
  exact Ev.now _

-- says For all numbers the program's GeneratorOf returns what the reference's returns and shares no memory; no conditions.
theorem law : laws_FnExactGeneratorOf.Pure := by
  intro n i j hn hi hj
  obtain ⟨m, r, c, hr, hrl⟩ : ∃ m r c, genOfM n i j = (m, r, c) ∧ r.length ≤ 100 := ⟨_, _, _, rfl, genOfM_length n i j⟩
  have h2 := spec_GeneratorOf.ev n i j (wf_i64 hj)
  have h3 := impl_GeneratorOf.ev n i j (wf_i64 hj)
  rw [hr] at h2 h3
  have h5 := laws_eqBraid.ev m m r r (by omega)
  have h7 := laws_markBraid.ev m r 1 (by omega) (by omega)
  have h8 := laws_heldBraid.ev m 1 r.length (by omega) (by omega) (by omega)
  have g2 : ¬ (1 + (r.length : Int) < 0) := by omega
  refine Ev.rounds ?_
  simp only [laws_FnExactGeneratorOf.f, g2]
  repeat (first | (with_reducible refine Ev.bind h2 ?_; (try dsimp only)) | (with_reducible refine Ev.bind h3 ?_; (try dsimp only)) | (with_reducible refine Ev.bind h5 ?_; (try dsimp only)) | (with_reducible refine Ev.bind h7 ?_; (try dsimp only)) | (with_reducible refine Ev.bind h8 ?_; (try dsimp only)) | (simp only [if_true, if_false, eq_self, decide_true, decide_false, Bool.and_self, Bool.true_and, Bool.and_true, bne_self_eq_false, Bool.not_true, Bool.not_false, Bool.false_eq_true, reduceCtorEq, iota_length, g2]))
  refine Ev.succ ?_
  simp only [laws_FnExactGeneratorOf.j0]
  repeat (first | (with_reducible refine Ev.bind h2 ?_; (try dsimp only)) | (with_reducible refine Ev.bind h3 ?_; (try dsimp only)) | (with_reducible refine Ev.bind h5 ?_; (try dsimp only)) | (with_reducible refine Ev.bind h7 ?_; (try dsimp only)) | (with_reducible refine Ev.bind h8 ?_; (try dsimp only)) | (simp only [if_true, if_false, eq_self, decide_true, decide_false, Bool.and_self, Bool.true_and, Bool.and_true, bne_self_eq_false, Bool.not_true, Bool.not_false, Bool.false_eq_true, reduceCtorEq, iota_length, g2]))
  refine Ev.succ ?_
  simp only [laws_FnExactGeneratorOf.j1]
  repeat (first | (with_reducible refine Ev.bind h2 ?_; (try dsimp only)) | (with_reducible refine Ev.bind h3 ?_; (try dsimp only)) | (with_reducible refine Ev.bind h5 ?_; (try dsimp only)) | (with_reducible refine Ev.bind h7 ?_; (try dsimp only)) | (with_reducible refine Ev.bind h8 ?_; (try dsimp only)) | (simp only [if_true, if_false, eq_self, decide_true, decide_false, Bool.and_self, Bool.true_and, Bool.and_true, bne_self_eq_false, Bool.not_true, Bool.not_false, Bool.false_eq_true, reduceCtorEq, iota_length, g2]))
  exact Ev.now _

end Go.Proofs.Ytijafgikehlomaa.PureFnExactGeneratorOf
namespace Go.Proofs.Ytijafgikehlomaa.Pure
theorem FnExactGeneratorOf : Go.Proofs.Ytijafgikehlomaa.PFnExactGeneratorOf.laws_FnExactGeneratorOf.Pure := Go.Proofs.Ytijafgikehlomaa.PureFnExactGeneratorOf.law
end Go.Proofs.Ytijafgikehlomaa.Pure
