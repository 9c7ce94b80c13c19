/- For every braid-shaped input the program's LinkingsOf returns what the reference's returns, keeps its argument and shares no memory; no conditions. -/
import Derived.Test.YtcbomfkimohlfaaMFnExactLinkingsOfx
import Derived.Test.YtcbomfkimohlfaaLib
import Derived.Test.YtcbomfkimohlfaaLibCross
import Derived.Test.YtcbomfkimohlfaaLibMat
import Derived.Test.YtcbomfkimohlfaaLibPure
import Derived.Test.YtcbomfkimohlfaaLibRows
set_option linter.unusedVariables false
set_option linter.unusedSimpArgs false
set_option maxRecDepth 10000
set_option maxHeartbeats 4000000
namespace Go.Proofs.Ytcbomfkimohlfaa.PureFnExactLinkingsOf
open Go.RowKit Go.Proofs.Ytcbomfkimohlfaa.MFnExactLinkingsOf Go.Proofs.YtcbomfkimohlfaaW.PrintWords Go.Proofs.Ytcbomfkimohlfaa.Lib

theorem rdL1_eq (xs : List (List Int)) (i : Int) : rd_L1 xs i = rdl xs i := by
  have h : rd_L1 xs i = xs.getD i.toNat [] := by unfold rd_L1; rfl
  rw [h, rdl]

/-! ### laws_szInt64S -/
theorem laws_szInt64S.eq (l : List Int) (x : Int) (h0 : 0 ≤ x) (h1 : x ≤ 1048576) (hl : l.length ≤ maxLen) : laws_szInt64S.f l x = some (if x - l.length < 0 then -1 else x - l.length) := by
  unfold maxLen at hl
  simp (disch := omega) only [laws_szInt64S.f, w64]
  split <;> rfl

/-! ### laws_szBraid -/
theorem laws_szBraid.eq (n : Int) (l : List Int) (x : Int) (h0 : 0 ≤ x) (h1 : x ≤ 1048576) (hl : l.length ≤ maxLen) : laws_szBraid.f n l x = some (if x - l.length < 0 then -1 else x - l.length) := by
  simp (disch := assumption) only [laws_szBraid.f, laws_szInt64S.eq, Option.bind_some]
  by_cases h : x - l.length < 0
  · simp [h]
  · simp [h]

/-! ### laws_toInt64S -/
theorem laws_toInt64S.ev0 (l : List Int) (hb : l.length ≤ 17592186044416) : ∀ (d i : Nat) (acc : List Int), i + d = l.length → acc.length = l.length →
    Ev (fun k => laws_toInt64S.l0 k l acc (i : Int)) (acc.take i ++ l.drop i) := by
  intro d
  induction d with
  | zero =>
    intro i acc hi ha
    refine Ev.succ ?_
    simp (disch := omega) only [laws_toInt64S.l0, if_neg]
    exact Ev.pure (by rw [List.take_of_length_le (by omega), List.drop_of_length_le (by omega), List.append_nil])
  | succ d ih =>
    intro i acc hi ha
    refine Ev.succ ?_
    simp (disch := omega) only [laws_toInt64S.l0, if_pos, w64]
    refine Ev.to (ih (i + 1) (acc.set i (rd l i)) (by omega) (by simpa using ha)) ?_
    rw [take_set_succ _ _ _ (by omega), drop_rd l i (by omega), List.append_assoc]; rfl
theorem laws_toInt64S.ev (l : List Int) (hb : l.length ≤ 17592186044416) : Ev (fun k => laws_toInt64S.f k l) l := by
  simp (disch := omega) only [laws_toInt64S.f, if_pos]
  refine Ev.to (laws_toInt64S.ev0 l hb l.length 0 (List.replicate l.length 0) (by omega) (by simp)) (by simp)

/-! ### laws_toBraid -/
theorem laws_toBraid.ev (n : Int) (l : List Int) (hb : l.length ≤ 17592186044416) : Ev (fun k => laws_toBraid.f k n l) (n, l) := by
  simp only [laws_toBraid.f]
  exact Ev.bind (laws_toInt64S.ev l hb) (Ev.now _)

/-! ### laws_eqInt64S -/
theorem laws_eqInt64S.ev0 (l m : List Int) (hb : l.length ≤ 4611686018427387904) (hlm : l.length = m.length) : ∀ (d i : Nat), i + d = l.length →
    Ev (fun k => laws_eqInt64S.l0 k l m (i : Int)) (decide (l.drop i = m.drop i)) := by
  intro d
  induction d with
  | zero =>
    intro i hi
    refine Ev.succ ?_
    simp (disch := omega) only [laws_eqInt64S.l0, if_neg]
    exact Ev.pure (by rw [List.drop_of_length_le (by omega), List.drop_of_length_le (by omega)]; simp)
  | succ d ih =>
    intro i hi
    refine Ev.succ ?_
    simp (disch := omega) only [laws_eqInt64S.l0, if_pos, w64]
    rw [drop_rd l i (by omega), drop_rd m i (by omega)]
    by_cases h : rd l i = rd m i
    · simp only [if_pos h]
      refine Ev.to (ih (i + 1) (by omega)) (by simp [h])
    · simp only [if_neg h]
      exact Ev.pure (by simp [h])
theorem laws_eqInt64S.ev (l m : List Int) (hb : l.length ≤ 4611686018427387904) : Ev (fun k => laws_eqInt64S.f k l m) (decide (l = m)) := by
  by_cases h : l.length = m.length
  · simp (disch := omega) only [laws_eqInt64S.f, if_pos]
    exact Ev.to (laws_eqInt64S.ev0 l m hb h l.length 0 (by omega)) (by simp)
  · simp (disch := omega) only [laws_eqInt64S.f, if_neg]
    exact Ev.pure (by simp; intro e; exact h (by rw [e]))

/-! ### laws_eqBraid -/
theorem laws_eqBraid.ev (n m : Int) (l s : List Int) (hb : l.length ≤ 4611686018427387904) : Ev (fun k => laws_eqBraid.f k n l m s) (decide (n = m) && decide (l = s)) := by
  simp only [laws_eqBraid.f]
  by_cases h : n = m
  · simp only [if_pos h]
    refine Ev.bind (laws_eqInt64S.ev l s hb) ?_
    by_cases h' : l = s <;> simp [h, h'] <;> exact Ev.now _
  · simp only [if_neg h]
    exact Ev.pure (by simp [h])

/-! ### laws_markInt64S -/
theorem laws_markInt64S.ev0 (n : Nat) (hb : n ≤ 4611686018427387904) : ∀ (d i : Nat) (acc : List Int) (x : Int), i + d = n → acc.length = n → -4611686018427387904 ≤ x → x + d ≤ 4611686018427387904 →
    Ev (fun k => laws_markInt64S.l0 k acc x (i : Int)) (x + d, acc.take i ++ iota x d) := by
  intro d
  induction d with
  | zero =>
    intro i acc x hi ha h0 h1
    refine Ev.succ ?_
    simp (disch := omega) only [laws_markInt64S.l0, if_neg]
    exact Ev.pure (by rw [List.take_of_length_le (by omega)]; simp [iota])
  | succ d ih =>
    intro i acc x hi ha h0 h1
    refine Ev.succ ?_
    simp (disch := omega) only [laws_markInt64S.l0, if_pos, w64]
    refine Ev.to (ih (i + 1) (acc.set i x) (x + 1) (by omega) (by simpa using ha) (by omega) (by omega)) ?_
    rw [take_set_succ _ _ _ (by omega), List.append_assoc]
    exact Prod.ext (by simp; omega) rfl
theorem laws_markInt64S.ev (l : List Int) (x : Int) (h0 : 0 ≤ x) (h1 : x + l.length ≤ 4611686018427387904) : Ev (fun k => laws_markInt64S.f k l x) (x + l.length, iota x l.length) := by
  simp only [laws_markInt64S.f]
  exact Ev.to (laws_markInt64S.ev0 l.length (by omega) l.length 0 l x (by omega) rfl (by omega) h1) (by simp)

/-! ### laws_markBraid -/
theorem laws_markBraid.ev (n : Int) (l : List Int) (x : Int) (h0 : 0 ≤ x) (h1 : x + l.length ≤ 4611686018427387904) : Ev (fun k => laws_markBraid.f k n l x) (x + l.length, iota x l.length) := by
  simp only [laws_markBraid.f]
  exact Ev.bind (laws_markInt64S.ev l x h0 h1) (Ev.now _)

/-! ### laws_eqInt64SS -/
theorem laws_eqInt64SS.ev0 (l : List (List Int)) (hb : l.length ≤ 4611686018427387904) (hr : ∀ q ∈ l, q.length ≤ 4611686018427387904) : ∀ (d i : Nat), i + d = l.length →
    Ev (fun k => laws_eqInt64SS.l0 k l l (i : Int)) true := by
  intro d
  induction d with
  | zero =>
    intro i hi
    refine Ev.succ ?_
    simp (disch := omega) only [laws_eqInt64SS.l0, if_neg]
    exact Ev.now _
  | succ d ih =>
    intro i hi
    refine Ev.succ ?_
    simp (disch := omega) only [laws_eqInt64SS.l0, if_pos, w64, rdL1_eq]
    refine Ev.bind (laws_eqInt64S.ev _ _ (hr _ (rdl_mem l i (by omega)))) ?_
    simp only [decide_true, if_true]
    exact ih (i + 1) (by omega)
theorem laws_eqInt64SS.refl (l : List (List Int)) (hb : l.length ≤ 4611686018427387904) (hr : ∀ q ∈ l, q.length ≤ 4611686018427387904) : Ev (fun k => laws_eqInt64SS.f k l l) true := by
  simp only [laws_eqInt64SS.f, if_true]
  exact laws_eqInt64SS.ev0 l hb hr l.length 0 (by omega)

/-! ### spec_l01In -/
theorem spec_l01In.eq (a lo hi : Int) : spec_l01In.f a lo hi = some (inB a lo hi) := by
  unfold spec_l01In.f inB
  by_cases h : lo ≤ a <;> simp [h]

/-! ### spec_l01Is -/
theorem spec_l01Is.letter (n x : Int) (h1 : 1 ≤ n) (h8 : n ≤ 8) (hx : -9223372036854775808 ≤ x ∧ x ≤ 9223372036854775807) : (inB x 1 (n - 1) || inB (wrap64 (-x)) 1 (n - 1)) = letterB n x := by
  unfold inB letterB inB wrap64
  rw [Bool.eq_iff_iff]; simp; omega
theorem spec_l01Is.ev0 (n : Int) (l : List Int) (h1 : 1 ≤ n) (h8 : n ≤ 8) (hb : l.length ≤ 200) (hf : Fits l) : ∀ (d i : Nat), i + d = l.length →
    Ev (fun k => spec_l01Is.l0 k (i : Int) n l) ((l.drop i).all (letterB n)) := by
  intro d
  induction d with
  | zero =>
    intro i hi
    refine Ev.succ ?_
    simp (disch := omega) only [spec_l01Is.l0, if_neg]
    exact Ev.pure (by rw [List.drop_of_length_le (by omega)]; rfl)
  | succ d ih =>
    intro i hi
    refine Ev.succ ?_
    have hx := hf (rd l i) (rd_mem l i (by omega))
    have hl := spec_l01Is.letter n (rd l i) h1 h8 hx
    have hw : wrap64 (n - 1) = n - 1 := w64 (by omega) (by omega)
    have hw2 : wrap64 ((i : Int) + 1) = ((i + 1 : Nat) : Int) := w64 (by omega) (by omega)
    simp (disch := omega) only [spec_l01Is.l0, if_pos, hw, hw2, spec_l01In.eq, Option.bind_some]
    rw [drop_rd l i (by omega), List.all_cons, ← hl]
    cases h : inB (rd l i) 1 (n - 1) with
    | true => simp only [if_true, Bool.true_or, Bool.true_and]; exact ih (i + 1) (by omega)
    | false =>
      cases h' : inB (wrap64 (-(rd l i))) 1 (n - 1) with
      | true => simp only [if_true, Bool.false_or, Bool.true_and, Bool.false_eq_true, if_false]; exact ih (i + 1) (by omega)
      | false => exact Ev.pure (by simp)
theorem spec_l01Is.ev (n : Int) (l : List Int) (hf : Fits l) : Ev (fun k => spec_l01Is.f k n l) (isBraidB n l) := by
  simp only [spec_l01Is.f, spec_l01In.eq, Option.bind_some]
  unfold isBraidB
  cases hn : inB n 1 8 with
  | false =>
    refine Ev.succ ?_
    simp [spec_l01Is.j0]
    exact Ev.now _
  | true =>
    obtain ⟨h1, h8⟩ := inB_iff.1 hn
    refine Ev.succ ?_
    simp only [if_true, spec_l01Is.j0, Bool.true_and]
    by_cases hl : l.length ≤ 200
    · have : ¬ ((l.length : Int) > 200) := by omega
      simp only [this, decide_false, Bool.false_eq_true, if_false, hl, decide_true, Bool.true_and]
      exact Ev.to (spec_l01Is.ev0 n l h1 h8 hl hf l.length 0 (by omega)) (by simp)
    · have : ((l.length : Int) > 200) := by omega
      simp only [this, decide_true, if_true, hl, decide_false, Bool.false_and]
      exact Ev.now _

/-! ### spec_l01Perm -/
-- use LibPure
theorem spec_l10Pure.fill (n : Int) (hn : 0 ≤ n ∧ n ≤ 8) : fillL n.toNat = iota 0 n.toNat ++ List.replicate (8 - n.toNat) 0 := by
  have h : ∀ m : Fin 9, fillL m.val = iota 0 m.val ++ List.replicate (8 - m.val) 0 := by decide
  exact h ⟨n.toNat, by omega⟩
theorem spec_l10Pure.sw1 {n : Nat} {xs z : List Int} (h : xs.length = n) {x : Int} (hn : n ≤ 8) (hx : 1 ≤ absI x ∧ absI x < (n : Int)) : sw (xs ++ z) x = swI xs x ++ z := by
  have hb := absI_eq x
  have h8 : -8 ≤ x ∧ x ≤ 8 := by split at hb <;> omega
  have W : wrap64 (-x) = -x := w64 (by omega) (by omega)
  have ha : mx x (-x) = absI x := rfl
  have w1 : wrap64 (absI x - 1) = absI x - 1 := w64 (by omega) (by omega)
  simp only [sw, W, ha, w1, swI]
  rw [rd_app xs z (by omega) (by omega), rd_app xs z (x := absI x) (by omega) (by omega), List.set_append_left _ _ (by omega), List.set_append_left _ _ (by simp; omega), List.set_comm _ _ (by omega)]
theorem spec_l10Pure.fold {n : Nat} (hn : n ≤ 8) (z : List Int) {l : List Int} (hl : ∀ x ∈ l, 1 ≤ absI x ∧ absI x < (n : Int)) : ∀ {xs : List Int}, xs.length = n → l.foldl sw (xs ++ z) = l.foldl swI xs ++ z := by
  induction l with
  | nil => intro xs h; rfl
  | cons x l ih =>
    intro xs h
    rw [List.foldl_cons, List.foldl_cons, spec_l10Pure.sw1 h hn (hl x (by simp))]
    exact ih (fun y hy => hl y (by simp [hy])) (by simp [swI, h])
theorem spec_l10Pure.perm {n : Nat} (hn : n ≤ 8) {s : List Int} (hs : InN n s) (z : List Int) : ∀ k, k ≤ n → permGo (s ++ z) k = endsGo s n k ++ List.replicate (8 - n) 0
  | 0, _ => by
    rw [permGo, endsGo, a8, List.replicate_append_replicate]
    congr 1; omega
  | k + 1, h => by
    have hr := rd_in hs (x := (k : Int)) (by omega) (by omega)
    have hl := endsGo_length s n k
    rw [permGo, endsGo, spec_l10Pure.perm hn hs z k (by omega), rd_app s z (by omega) (by rw [hs.1]; omega), List.set_append_left _ _ (by omega)]
theorem spec_l10Pure.permEq (n : Int) (hn : 0 ≤ n ∧ n ≤ 8) {l : List Int} (hl : ∀ x ∈ l, 1 ≤ absI x ∧ absI x < (n.toNat : Int)) : permL n l = endsGo (atL n.toNat l) n.toNat n.toNat ++ List.replicate (8 - n.toNat) 0 := by
  rw [permL, spec_l10Pure.fill n hn, spec_l10Pure.fold (by omega) _ hl (iota_length 0 _)]
  exact spec_l10Pure.perm (by omega) (atL_in hl) _ _ (Nat.le_refl _)
theorem spec_l10Pure.base (n : Int) (hn : 0 ≤ n ∧ n ≤ 8) : endsGo (atL n.toNat []) n.toNat n.toNat = iota 0 n.toNat := by
  have h : ∀ m : Fin 9, endsGo (atL m.val []) m.val m.val = iota 0 m.val := by decide
  exact h ⟨n.toNat, by omega⟩

/-! ### spec_l10Pure -/
-- use LibPure
theorem spec_l10Pure.ev (n : Int) (l : List Int) (hf : Fits l) : Ev (fun k => spec_l10Pure.f k n l) (pureM n l) := by
  simp only [spec_l10Pure.f]
  refine Ev.bind (spec_l01Is.ev n l hf) ?_
  unfold pureM
  by_cases h : isBraidB n l = true
  · obtain ⟨hn, _, hx⟩ := isBraidB_iff.1 h
    have hs := braid_sizes h
    have hg : spec_l10Pure.good n l = true := by
      simp only [spec_l10Pure.good, Bool.and_eq_true, decide_eq_true_eq, List.all_eq_true]
      refine ⟨by omega, fun x hx' => ?_⟩
      have h1 := hx x hx'
      have h2 := hs x hx'
      have W : wrap64 (-x) = -x := w64 (by omega) (by omega)
      have ha : mx x (-x) = absI x := rfl
      rw [W, ha]; omega
    have e : (permL n l = permL n []) ↔ pureB n l = true := by
      rw [spec_l10Pure.permEq n (by omega) hs, spec_l10Pure.permEq n (by omega) (by simp), spec_l10Pure.base n (by omega), pureB, decide_eq_true_eq]
      exact ⟨fun h => List.append_cancel_right h, fun h => by rw [h]⟩
    simp only [if_pos h, if_pos hg]
    by_cases hp : pureB n l = true
    · simp only [if_pos hp, if_pos (e.2 hp)]; exact Ev.now _
    · simp only [if_neg hp, if_neg (fun x => hp (e.1 x))]; exact Ev.now _
  · simp only [if_neg h]
    exact Ev.now _

/-! ### impl_within -/
theorem impl_within.eq (a lo hi : Int) : impl_within.f a lo hi = some (inB a lo hi) := by
  unfold impl_within.f inB
  by_cases h : lo ≤ a <;> simp [h]

/-! ### impl_isCount -/
theorem impl_isCount.eq (a : Int) : impl_isCount.f a = some (inB a 1 8) := by simp only [impl_isCount.f, impl_within.eq, Option.bind_some]

/-! ### impl_isLetter -/
theorem impl_isLetter.eq (x n : Int) (h1 : 1 ≤ n) (h8 : n ≤ 8) : impl_isLetter.f x n = some (letterB n x) := by
  simp (disch := omega) only [impl_isLetter.f, impl_within.eq, Option.bind_some, w64]
  unfold letterB
  split <;> simp_all

/-! ### impl_IsBraid -/
theorem impl_IsBraid.ev0 (n : Int) (l : List Int) (h1 : 1 ≤ n) (h8 : n ≤ 8) (hb : l.length ≤ 200) : ∀ (d i : Nat), i + d = l.length →
    Ev (fun k => impl_IsBraid.l0 k l (l.length : Int) (i : Int) n l) ((l.drop i).all (letterB n)) := by
  intro d
  induction d with
  | zero =>
    intro i hi
    refine Ev.succ ?_
    simp (disch := omega) only [impl_IsBraid.l0, if_neg]
    exact Ev.pure (by rw [List.drop_of_length_le (by omega)]; rfl)
  | succ d ih =>
    intro i hi
    refine Ev.succ ?_
    simp (disch := omega) only [impl_IsBraid.l0, if_pos, w64, impl_isLetter.eq, Option.bind_some]
    rw [drop_rd l i (by omega), List.all_cons]
    cases h : letterB n (rd l i) with
    | true => simp only [if_true, Bool.true_and]; exact ih (i + 1) (by omega)
    | false => exact Ev.pure (by simp)
theorem impl_IsBraid.ev (n : Int) (l : List Int) : Ev (fun k => impl_IsBraid.f k n l) (isBraidB n l) := by
  simp only [impl_IsBraid.f, impl_isCount.eq, Option.bind_some]
  unfold isBraidB
  cases hn : inB n 1 8 with
  | false =>
    refine Ev.succ ?_
    simp [impl_IsBraid.j0]
    exact Ev.now _
  | true =>
    obtain ⟨h1, h8⟩ := inB_iff.1 hn
    refine Ev.succ ?_
    simp only [if_true, impl_IsBraid.j0, Bool.true_and]
    by_cases hl : l.length ≤ 200
    · have : ¬ ((l.length : Int) > 200) := by omega
      simp only [this, decide_false, Bool.false_eq_true, if_false, hl, decide_true, Bool.true_and]
      exact Ev.to (impl_IsBraid.ev0 n l h1 h8 hl l.length 0 (by omega)) (by simp)
    · have : ((l.length : Int) > 200) := by omega
      simp only [this, decide_true, if_true, hl, decide_false, Bool.false_and]
      exact Ev.now _

/-! ### impl_size -/
theorem impl_size.eq (x : Int) (h : -4611686018427387904 ≤ x ∧ x ≤ 4611686018427387904) : impl_size.f x = some (absI x) := by
  have e : wrap64 (-x) = -x := w64 (by omega) (by omega)
  simp only [impl_size.f, e, absI]

/-! ### impl_strandsOf -/
-- use LibPure
theorem impl_strandsOf.ev0 (n : Nat) (hn : n ≤ 8) : ∀ (d i : Nat) (acc : List Int), i + d = n → acc.length ≤ i → Ev (fun k => impl_strandsOf.l0 k acc (n : Int) (i : Int)) (acc ++ iota (i : Int) d) := by
  intro d
  induction d with
  | zero =>
    intro i acc hi ha
    refine Ev.succ ?_
    simp (disch := omega) only [impl_strandsOf.l0, if_neg]
    exact Ev.pure (by simp [iota])
  | succ d ih =>
    intro i acc hi ha
    refine Ev.succ ?_
    have c1 : (i : Int) < (n : Int) := by omega
    have c2 : acc.length < 17592186044416 := by omega
    have w1 := Aside0.mk (show wrap64 ((i : Int) + 1) = ((i + 1 : Nat) : Int) from (w64 (by omega) (by omega)).trans (by omega))
    simp only [impl_strandsOf.l0, if_pos c1, if_pos c2, w1.out]
    exact Ev.to (ih (i + 1) (acc ++ [(i : Int)]) (by omega) (by simp; omega)) (by simp [iota])
theorem impl_strandsOf.ev (n : Int) (hn : 0 ≤ n ∧ n ≤ 8) : Ev (fun k => impl_strandsOf.f k n) (iota 0 n.toNat) := by
  obtain ⟨m, rfl⟩ : ∃ m : Nat, n = (m : Int) := ⟨n.toNat, by omega⟩
  simp only [impl_strandsOf.f, Int.toNat_natCast]
  exact Ev.to (impl_strandsOf.ev0 m (by omega) m 0 [] (by omega) (by simp)) (by simp)

/-! ### impl_follow -/
-- use LibPure
theorem impl_follow.ev0 (n : Nat) (hn : n ≤ 8) (l : List Int) (hb : l.length ≤ 200) (hl : ∀ x ∈ l, 1 ≤ absI x ∧ absI x < (n : Int)) : ∀ (d i : Nat) (xs : List Int), i + d = l.length → xs.length = n →
    Ev (fun k => impl_follow.l0 k xs l (l.length : Int) (i : Int)) ((l.drop i).foldl swI xs) := by
  intro d
  induction d with
  | zero =>
    intro i xs hi ha
    refine Ev.succ ?_
    simp (disch := omega) only [impl_follow.l0, if_neg]
    exact Ev.pure (by rw [List.drop_of_length_le (by omega)]; rfl)
  | succ d ih =>
    intro i xs hi ha
    have hx := hl _ (rd_mem l i (by omega))
    have hb := absI_eq (rd l (i : Int))
    have h8 : -8 ≤ rd l (i : Int) ∧ rd l (i : Int) ≤ 8 := by split at hb <;> omega
    have hsz := Aside0.mk (impl_size.eq (rd l (i : Int)) (by omega))
    have w1 := Aside0.mk (show wrap64 ((i : Int) + 1) = ((i + 1 : Nat) : Int) from (w64 (by omega) (by omega)).trans (by omega))
    have wk := Aside0.mk (w64 (x := absI (rd l (i : Int)) - 1) (by omega) (by omega))
    have c1 : (i : Int) < (l.length : Int) := by omega
    have c2 : 0 ≤ (i : Int) := by omega
    have c3 : 0 ≤ absI (rd l (i : Int)) - 1 := by omega
    have c4 : absI (rd l (i : Int)) - 1 < (xs.length : Int) := by omega
    have c5 : 0 ≤ absI (rd l (i : Int)) := by omega
    have c6 : absI (rd l (i : Int)) < (xs.length : Int) := by omega
    refine Ev.succ ?_
    rw [drop_rd l i (by omega), List.foldl_cons]
    simp only [impl_follow.l0, if_pos c1, if_pos c2, hsz.out, Option.bind_some, wk.out, if_pos c3, if_pos c4, if_pos c5, if_pos c6, w1.out]
    exact ih (i + 1) (swI xs (rd l (i : Int))) (by omega) (by simp [swI, ha])
theorem impl_follow.ev (n : Int) (l : List Int) (f : Int) (h : isBraidB n l = true) : Ev (fun k => impl_follow.f k n l f) (atL n.toNat l) := by
  obtain ⟨hn, hb, _⟩ := isBraidB_iff.1 h
  simp only [impl_follow.f]
  refine Ev.bind (impl_strandsOf.ev n (by omega)) ?_
  exact Ev.to (impl_follow.ev0 n.toNat (by omega) l hb (braid_sizes h) l.length 0 (iota 0 n.toNat) (by omega) (iota_length _ _)) (by simp [atL])

/-! ### impl_endsOf -/
-- use LibPure
theorem impl_endsOf.ev0 (n : Nat) (hn : n ≤ 8) (s : List Int) (hs : InN n s) : ∀ (d i : Nat), i + d = n →
    Ev (fun k => impl_endsOf.l0 k (endsGo s n i) s (s.length : Int) (i : Int)) (endsGo s n n) := by
  have hl := hs.1
  intro d
  induction d with
  | zero =>
    intro i hi
    refine Ev.succ ?_
    simp (disch := omega) only [impl_endsOf.l0, if_neg]
    obtain rfl : i = n := by omega
    exact Ev.now _
  | succ d ih =>
    intro i hi
    have hr := rd_in hs (x := (i : Int)) (by omega) (by omega)
    have he := endsGo_length s n i
    have w1 := Aside0.mk (show wrap64 ((i : Int) + 1) = ((i + 1 : Nat) : Int) from (w64 (by omega) (by omega)).trans (by omega))
    have c1 : (i : Int) < (s.length : Int) := by omega
    have c2 : 0 ≤ (i : Int) := by omega
    have c4 : rd s (i : Int) < ((endsGo s n i).length : Int) := by omega
    refine Ev.succ ?_
    simp only [impl_endsOf.l0, if_pos c1, if_pos c2, if_pos hr.1, if_pos c4, w1.out]
    exact ih (i + 1) (by omega)
theorem impl_endsOf.ev (n : Int) (l : List Int) (h : isBraidB n l = true) : Ev (fun k => impl_endsOf.f k n l) (endsGo (atL n.toNat l) n.toNat n.toNat) := by
  obtain ⟨hn, hb, _⟩ := isBraidB_iff.1 h
  have c1 : 0 ≤ n := by omega
  have c2 : n.toNat ≤ 35184372088832 := by omega
  simp only [impl_endsOf.f, if_pos c1, if_pos c2]
  refine Ev.bind (impl_follow.ev n l 0 h) ?_
  exact impl_endsOf.ev0 n.toNat (by omega) _ (atL_in (braid_sizes h)) n.toNat 0 (by omega)

/-! ### impl_isPure -/
-- use LibPure
theorem impl_isPure.ev0 (s : List Int) (hs : s.length ≤ 8) : ∀ (d i : Nat), i + d = s.length →
    Ev (fun k => impl_isPure.l0 k s (s.length : Int) (i : Int)) (pureGo s i d) := by
  intro d
  induction d with
  | zero =>
    intro i hi
    refine Ev.succ ?_
    simp (disch := omega) only [impl_isPure.l0, if_neg]
    exact Ev.now _
  | succ d ih =>
    intro i hi
    have w1 := Aside0.mk (show wrap64 ((i : Int) + 1) = ((i + 1 : Nat) : Int) from (w64 (by omega) (by omega)).trans (by omega))
    have c1 : (i : Int) < (s.length : Int) := by omega
    have c2 : 0 ≤ (i : Int) := by omega
    refine Ev.succ ?_
    simp only [impl_isPure.l0, if_pos c1, if_pos c2, w1.out, pureGo]
    by_cases h : (i : Int) = rd s (i : Int)
    · simp only [if_pos h]
      exact Ev.to (ih (i + 1) (by omega)) (by simp only [decide_eq_true h, Bool.true_and])
    · simp only [if_neg h]
      exact Ev.pure (by simp only [decide_eq_false h, Bool.false_and])
theorem impl_isPure.ev (n : Int) (l : List Int) (h : isBraidB n l = true) : Ev (fun k => impl_isPure.f k n l) (pureB n l) := by
  obtain ⟨hn, hb, _⟩ := isBraidB_iff.1 h
  have hl := endsGo_length (atL n.toNat l) n.toNat n.toNat
  simp only [impl_isPure.f]
  refine Ev.bind (impl_endsOf.ev n l h) ?_
  exact Ev.to (impl_isPure.ev0 _ (by omega) n.toNat 0 (by omega)) (pureGo_eq n l)

/-! ### impl_pureCode -/
-- use LibPure
theorem impl_pureCode.ev (n : Int) (l : List Int) : Ev (fun k => impl_pureCode.f k n l) (pureM n l) := by
  simp only [impl_pureCode.f]
  refine Ev.bind (impl_IsBraid.ev n l) ?_
  unfold pureM
  by_cases h : isBraidB n l = true
  · simp only [if_pos h]
    refine Ev.bind (impl_isPure.ev n l h) ?_
    by_cases hp : pureB n l = true
    · simp only [if_pos hp]; exact Ev.now _
    · simp only [if_neg hp]; exact Ev.now _
  · simp only [if_neg h]
    exact Ev.now _

/-! ### impl_zeroRows -/
-- use LibMat
theorem impl_zeroRows.ev0 (n : Nat) (hn : n ≤ 1048576) : ∀ (d i : Nat) (acc : List (List Int)), i + d = n → acc.length = i →
    Ev (fun t => impl_zeroRows.l0 t (n : Int) acc (n : Int) (i : Int)) (acc ++ List.replicate d (List.replicate n 0)) := by
  intro d
  induction d with
  | zero =>
    intro i acc hi ha
    refine Ev.succ ?_
    have c1 : ¬ (i : Int) < (n : Int) := by omega
    simp only [impl_zeroRows.l0, if_neg c1]
    exact Ev.pure (by simp)
  | succ d ih =>
    intro i acc hi ha
    refine Ev.succ ?_
    have c1 : (i : Int) < (n : Int) := by omega
    have c2 : 0 ≤ (n : Int) := by omega
    have c3 : n ≤ 35184372088832 := by omega
    have c4 : acc.length < 5864062014805 := by omega
    have w1 := Aside0.mk (w64 (x := (i : Int) + 1) (by omega) (by omega))
    simp only [impl_zeroRows.l0, if_pos c1, if_pos c2, if_pos c3, if_pos c4, w1.out, Int.toNat_natCast]
    refine Ev.to (ih (i + 1) _ (by omega) (by simp; omega)) ?_
    rw [List.replicate_succ]
    simp
theorem impl_zeroRows.ev (n : Nat) (hn : n ≤ 1048576) : Ev (fun t => impl_zeroRows.f t (n : Int)) (List.replicate n (List.replicate n 0)) := by
  simp only [impl_zeroRows.f]
  exact Ev.to (impl_zeroRows.ev0 n hn n 0 [] (by omega) rfl) (by simp)

/-! ### impl_CrossingsOf -/
-- use LibCross
open Go.Proofs.Ytcbomfkimohlfaa.LibMx Go.Proofs.Ytcbomfkimohlfaa.LibCr in
theorem impl_CrossingsOf.ev (n : Int) (l : List Int) : Ev (fun k => impl_CrossingsOf.f k n l) (if isBraidB n l = true then (cr.runR l (iota 0 n.toNat) (List.replicate n.toNat (List.replicate n.toNat 0)), 0) else ([], 1)) := by
  simp only [impl_CrossingsOf.f]
  refine Ev.bind (impl_IsBraid.ev n l) ?_
  by_cases hb : isBraidB n l = true
  · simp only [if_pos hb]
    obtain ⟨hn, hl, hx⟩ := isBraidB_iff.1 hb
    have hz := impl_zeroRows.ev n.toNat (by omega)
    rw [show ((n.toNat : Nat) : Int) = n by omega] at hz
    refine Ev.bind hz ?_
    refine Ev.bind (impl_strandsOf.ev n (by omega)) ?_
    have hg : (1 ≤ n ∧ n ≤ 8) ∧ cr.goodN n.toNat l ∧ cr.InN n.toNat (iota 0 n.toNat) ∧ iv.Sq n.toNat (List.replicate n.toNat (List.replicate n.toNat (0 : Int))) := ⟨hn, crx.goodN_of hb, (crx.start n.toNat (by omega)).hx, crx.zero_Sq n.toNat⟩
    simp only [if_pos hg]
    exact Ev.now _
  · simp only [if_neg hb]
    exact Ev.now _

/-! ### laws_heldInt64S -/
theorem laws_heldInt64S.ev0 (x0 : Int) (n : Nat) (h0 : -4611686018427387904 ≤ x0) (hb : x0 + n ≤ 4611686018427387904) (hn : n ≤ 4611686018427387904) : ∀ (d i : Nat), i + d = n →
    Ev (fun k => laws_heldInt64S.l0 k (iota x0 n) (x0 + i) (i : Int)) (x0 + n) := by
  intro d
  have hl := iota_length x0 n
  induction d with
  | zero =>
    intro i hi
    refine Ev.succ ?_
    simp (disch := omega) only [laws_heldInt64S.l0, if_neg]
    exact Ev.pure (by omega)
  | succ d ih =>
    intro i hi
    refine Ev.succ ?_
    have e := rd_iota n i x0 (by omega)
    simp (disch := omega) only [laws_heldInt64S.l0, if_pos, w64]
    refine Ev.to (Ev.congr (fun k => ?_) (ih (i + 1) (by omega))) rfl
    congr 1
    omega
theorem laws_heldInt64S.ev (x : Int) (n : Nat) (h0 : -4611686018427387904 ≤ x) (h1 : x + n ≤ 4611686018427387904) (hn : n ≤ 4611686018427387904) : Ev (fun k => laws_heldInt64S.f k (iota x n) x) (x + n) := by
  simp only [laws_heldInt64S.f]
  refine Ev.congr (fun k => ?_) (laws_heldInt64S.ev0 x n h0 h1 hn n 0 (by omega))
  simp

/-! ### laws_heldInt64SS -/
-- use LibRows
theorem laws_heldInt64SS.ev0 (x0 : Int) (l : List (List Int)) (hl : l.length ≤ 1048576) : ∀ (d i : Nat) (x : Int), i + d = l.length → 0 ≤ x → x + total (l.drop i) ≤ 4611686018427387904 → (iotaSS x0 l).drop i = iotaSS x (l.drop i) →
    Ev (fun t => laws_heldInt64SS.l0 t (iotaSS x0 l) x (i : Int)) (x + total (l.drop i)) := by
  have hll := iotaSS_length x0 l
  intro d
  induction d with
  | zero =>
    intro i x hi h0 h1 he
    refine Ev.succ ?_
    have c1 : ¬ (i : Int) < ((iotaSS x0 l).length : Int) := by omega
    simp only [laws_heldInt64SS.l0, if_neg c1]
    exact Ev.pure (by rw [List.drop_of_length_le (by omega)]; simp [total])
  | succ d ih =>
    intro i x hi h0 h1 he
    refine Ev.succ ?_
    have c1 : (i : Int) < ((iotaSS x0 l).length : Int) := by omega
    have c2 : 0 ≤ (i : Int) := by omega
    rw [drop_rdl l i (by omega)] at h1 he ⊢
    rw [drop_rdl (iotaSS x0 l) i (by omega)] at he
    simp only [total, iotaSS, List.cons.injEq] at h1 he ⊢
    have w1 := Aside0.mk (w64 (x := (i : Int) + 1) (by omega) (by omega))
    simp only [laws_heldInt64SS.l0, if_pos c1, if_pos c2, rdL1_eq, he.1]
    refine Ev.bind (laws_heldInt64S.ev x _ (by omega) (by omega) (by omega)) ?_
    have c3 : ¬ (x + ((rdl l (i : Int)).length : Int) < 0) := by omega
    simp only [if_neg c3, w1.out]
    exact Ev.to (ih (i + 1) _ (by omega) (by omega) (by omega) he.2) (by omega)
theorem laws_heldInt64SS.ev (x : Int) (l : List (List Int)) (hl : l.length ≤ 1048576) (h0 : 0 ≤ x) (h1 : x + total l ≤ 4611686018427387904) : Ev (fun t => laws_heldInt64SS.f t (iotaSS x l) x) (x + total l) := by
  simp only [laws_heldInt64SS.f]
  exact Ev.to (laws_heldInt64SS.ev0 x l hl l.length 0 x (by omega) h0 (by simpa using h1) (by simp)) (by simp)

-- says For every braid-shaped input the program's LinkingsOf returns what the reference's returns, keeps its argument and shares no memory; no conditions.
-- row braid
-- hand laws_markInt64SS
-- use LibCross
open Go.Proofs.Ytcbomfkimohlfaa.LibMx Go.Proofs.Ytcbomfkimohlfaa.LibCr in
theorem link_law (n : Int) (l : List Int) (hf : Fits l) : ∃ (g : List (List Int)) (c : Int), Ev (fun k => spec_LinkingsOf.f k n l) (g, c) ∧ Ev (fun k => impl_LinkingsOf.f k n l) (g, c) ∧ g.length ≤ 8 ∧ ∀ q ∈ g, q.length ≤ 8 := by
  by_cases hc : pureM n l = 0
  · have hb : isBraidB n l = true := by
      unfold pureM at hc
      split at hc
      · assumption
      · cases hc
    obtain ⟨hn, hl, hx⟩ := isBraidB_iff.1 hb
    have hg := crx.goodN_of hb
    obtain ⟨ys, xs, hr⟩ := crx.run (n := n.toNat) (by omega) l _ _ _ _ hg (crx.start n.toNat (by omega))
    have hh := crx.halves hr
    have hs := hr.hs
    have tb := crx.tab_bound (cr.runT l (cr.fill n.toNat) (List.replicate 64 0)) n.toNat
    refine ⟨cr.tabH (cr.runT l (cr.fill n.toNat) (List.replicate 64 0)) n.toNat, 0, ?_, ?_, by rw [tb.1]; omega, fun q hq => by rw [tb.2 q hq]; omega⟩
    · simp only [spec_LinkingsOf.f]
      refine Ev.bind (spec_l10Pure.ev n l hf) ?_
      have hc2 : cr.good l ∧ 1 ≤ n ∧ n ≤ 8 := ⟨hg.1, hn⟩
      simp only [if_pos hc, if_pos hc2]
      exact Ev.now _
    · simp only [impl_LinkingsOf.f]
      refine Ev.bind (impl_pureCode.ev n l) ?_
      simp only [if_pos hc]
      refine Ev.bind (impl_CrossingsOf.ev n l) ?_
      simp only [if_pos hb]
      have hle := hs.1
      have hc3 : iv.Sq (cr.runR l (iota 0 n.toNat) (List.replicate n.toNat (List.replicate n.toNat 0))).length (cr.runR l (iota 0 n.toNat) (List.replicate n.toNat (List.replicate n.toNat 0))) ∧ 1 ≤ (cr.runR l (iota 0 n.toNat) (List.replicate n.toNat (List.replicate n.toNat 0))).length ∧ (cr.runR l (iota 0 n.toNat) (List.replicate n.toNat (List.replicate n.toNat 0))).length ≤ 8 := by
        rw [hle]; exact ⟨hs, by omega, by omega⟩
      simp only [if_pos hc3]
      rw [hle, ← hh]
      exact Ev.now _
  · refine ⟨[], pureM n l, ?_, ?_, by simp, by simp⟩
    · simp only [spec_LinkingsOf.f]
      refine Ev.bind (spec_l10Pure.ev n l hf) ?_
      simp only [if_neg hc]
      exact Ev.now _
    · simp only [impl_LinkingsOf.f]
      refine Ev.bind (impl_pureCode.ev n l) ?_
      simp only [if_neg hc]
      exact Ev.now _


end Go.Proofs.Ytcbomfkimohlfaa.PureFnExactLinkingsOf
