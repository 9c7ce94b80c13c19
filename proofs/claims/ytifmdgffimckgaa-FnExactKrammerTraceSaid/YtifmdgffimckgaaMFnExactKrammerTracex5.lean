-- Walks of the functions that a law reaches, one after the other: plain functions, and that the machine's calls come to what they tell (wip/tools/myprint.py of this repo).
import Derived.Test.YtifmdgffimckgaaMFnExactKrammerTracex0
import Derived.Test.YtifmdgffimckgaaMFnExactKrammerTracex3
import Derived.Test.YtifmdgffimckgaaMFnExactKrammerTracex4
namespace Go.Proofs.Ytifmdgffimckgaa.MFnExactKrammerTrace
open Go.RowKit Go.Proofs.YtifmdgffimckgaaW.PrintWords Go.Proofs.YtifmdgffimckgaaW.PrintLast Go.Proofs.YtifmdgffimckgaaW.PrintMore
attribute [local go_sem] max2_int min2_int max_two min_two max_three min_three max_four min_four   -- for this text's walks alone
set_option linter.unusedVariables false
set_option linter.unusedSimpArgs false

/-! ### spec_l09Row: function 58 -/
mutual
def spec_l09Row.j0 : Nat → Int → Int → Int → Int → Int → Int → List Int → Int → Bool → Option (List Int)
  | 0, _, _, _, _, _, _, _, _, _ => none
  | k + 1, x0, x1, x2, x3, x4, x5, x13, x14, x60 => if x60 = true then ((spec_l09Mod.f (wrap64 ((Int.tmod (wrap64 (x5 * x4)) 10007) * x4))).bind fun t167 => (if 0 ≤ x14 then (if x14 < (x13.length : Int) then (some (x13.set (x14 : Int).toNat t167)) else (none)) else (none))) else (if x3 = x1 then ((spec_l09Pair.f k x0 x2 x1).bind fun t169 => ((spec_l09Mod.f (wrap64 (1 - x4))).bind fun t170 => (if 0 ≤ t169 then (if t169 < (x13.length : Int) then ((spec_l09Pair.f k x0 x2 (wrap64 (x1 + 1))).bind fun t172 => (if 0 ≤ t172 then (if t172 < (x13.length : Int) then (some ((x13.set (t169 : Int).toNat t170).set (t172 : Int).toNat x4)) else (none)) else (none))) else (none)) else (none)))) else (if x3 = (wrap64 (x1 + 1)) then ((spec_l09Pair.f k x0 x2 x1).bind fun t174 => (if 0 ≤ t174 then (if t174 < (x13.length : Int) then ((spec_l09Power.f k x4 (wrap64 ((wrap64 (x1 - x2)) + 1))).bind fun t176 => ((spec_l09Mod.f (wrap64 ((Int.tmod (wrap64 (x5 * t176)) 10007) * (wrap64 (x4 - 1))))).bind fun t177 => (if 0 ≤ x14 then (if x14 < (x13.length : Int) then (some ((x13.set (t174 : Int).toNat 1).set (x14 : Int).toNat t177)) else (none)) else (none)))) else (none)) else (none))) else (if x2 = x1 then ((spec_l09Mod.f (wrap64 ((Int.tmod (wrap64 (x5 * x4)) 10007) * (wrap64 (x4 - 1))))).bind fun t179 => (if 0 ≤ x14 then (if x14 < (x13.length : Int) then ((spec_l09Pair.f k x0 (wrap64 (x1 + 1)) x3).bind fun t181 => (if 0 ≤ t181 then (if t181 < (x13.length : Int) then (some ((x13.set (x14 : Int).toNat t179).set (t181 : Int).toNat x4)) else (none)) else (none))) else (none)) else (none))) else (if x2 = (wrap64 (x1 + 1)) then ((spec_l09Pair.f k x0 x1 x3).bind fun t183 => (if 0 ≤ t183 then (if t183 < (x13.length : Int) then ((spec_l09Pair.f k x0 (wrap64 (x1 + 1)) x3).bind fun t185 => ((spec_l09Mod.f (wrap64 (1 - x4))).bind fun t186 => (if 0 ≤ t185 then (if t185 < (x13.length : Int) then (some ((x13.set (t183 : Int).toNat 1).set (t185 : Int).toNat t186)) else (none)) else (none)))) else (none)) else (none))) else ((spec_l09Pair.f k x0 x2 x3).bind fun t188 => (if 0 ≤ t188 then (if t188 < (x13.length : Int) then ((some (x13.set (t188 : Int).toNat 1 : List Int)).bind fun y189 => (if x2 < x1 then (spec_l09Row.j1 k x1 x2 x4 x5 y189 x14 (decide (x3 > (wrap64 (x1 + 1))))) else (spec_l09Row.j1 k x1 x2 x4 x5 y189 x14 false))) else (none)) else (none)))))))
def spec_l09Row.j1 : Nat → Int → Int → Int → Int → List Int → Int → Bool → Option (List Int)
  | 0, _, _, _, _, _, _, _ => none
  | k + 1, x1, x2, x4, x5, x13, x14, x40 => if x40 = true then ((spec_l09Power.f k x4 (wrap64 (x1 - x2))).bind fun t190 => ((spec_l09Mod.f (wrap64 ((Int.tmod (wrap64 (x5 * t190)) 10007) * (Int.tmod (wrap64 ((wrap64 (x4 - 1)) * (wrap64 (x4 - 1)))) 10007)))).bind fun t191 => (if 0 ≤ x14 then (if x14 < (x13.length : Int) then (some (x13.set (x14 : Int).toNat t191)) else (none)) else (none)))) else (some x13)
end
def spec_l09Row.f (k : Nat) (a0 : Int) (a1 : Int) (a2 : Int) (a3 : Int) (a4 : Int) (a5 : Int) : Option (List Int) := if 0 ≤ (wrap64 (Int.tdiv (wrap64 (a0 * (wrap64 (a0 - 1)))) 2)) then (if (wrap64 (Int.tdiv (wrap64 (a0 * (wrap64 (a0 - 1)))) 2) : Int).toNat ≤ 35184372088832 then ((some (List.replicate (wrap64 (Int.tdiv (wrap64 (a0 * (wrap64 (a0 - 1)))) 2) : Int).toNat 0 : List Int)).bind fun y163 => ((spec_l09Pair.f k a0 a1 (wrap64 (a1 + 1))).bind fun t166 => (if a2 = a1 then (spec_l09Row.j0 k a0 a1 a2 a3 a4 a5 y163 t166 (a3 == (wrap64 (a1 + 1)))) else (spec_l09Row.j0 k a0 a1 a2 a3 a4 a5 y163 t166 false)))) else (none)) else (none)
theorem spec_l09Row.mono_l : ∀ k, (∀ y0 y1 y2 y3 y4 y5 y6 y7 y8, LeO (spec_l09Row.j0 k y0 y1 y2 y3 y4 y5 y6 y7 y8) (spec_l09Row.j0 (k + 1) y0 y1 y2 y3 y4 y5 y6 y7 y8)) ∧ (∀ y0 y1 y2 y3 y4 y5 y6, LeO (spec_l09Row.j1 k y0 y1 y2 y3 y4 y5 y6) (spec_l09Row.j1 (k + 1) y0 y1 y2 y3 y4 y5 y6))
  | 0 => ⟨fun _ _ _ _ _ _ _ _ _ r h => by simp [spec_l09Row.j0] at h, fun _ _ _ _ _ _ _ r h => by simp [spec_l09Row.j1] at h⟩
  | k + 1 => by
    obtain ⟨ih0, ih1⟩ := spec_l09Row.mono_l k
    refine ⟨?_, ?_⟩
    · intro y0 y1 y2 y3 y4 y5 y6 y7 y8
      unfold spec_l09Row.j0
      repeat' first
      | (with_reducible exact ih0 _ _ _ _ _ _ _ _ _)
      | (with_reducible exact ih1 _ _ _ _ _ _ _)
      | (with_reducible exact spec_l09Pair.mono _ _ _ _)
      | (with_reducible exact spec_l09Power.mono _ _ _)
      | (with_reducible exact LeO.refl _)
      | (with_reducible exact LeO.none _)
      | (with_reducible refine LeO.ite ?_ ?_)
      | (with_reducible refine LeO.bind ?_ (fun _ => ?_))
      | exact ih0 _ _ _ _ _ _ _ _ _
      | exact ih1 _ _ _ _ _ _ _
      | exact spec_l09Pair.mono _ _ _ _
      | exact spec_l09Power.mono _ _ _
      | exact LeO.none _
      | refine LeO.ite ?_ ?_
      | refine LeO.bind ?_ (fun _ => ?_)
    · intro y0 y1 y2 y3 y4 y5 y6
      unfold spec_l09Row.j1
      repeat' first
      | (with_reducible exact ih0 _ _ _ _ _ _ _ _ _)
      | (with_reducible exact ih1 _ _ _ _ _ _ _)
      | (with_reducible exact spec_l09Pair.mono _ _ _ _)
      | (with_reducible exact spec_l09Power.mono _ _ _)
      | (with_reducible exact LeO.refl _)
      | (with_reducible exact LeO.none _)
      | (with_reducible refine LeO.ite ?_ ?_)
      | (with_reducible refine LeO.bind ?_ (fun _ => ?_))
      | exact ih0 _ _ _ _ _ _ _ _ _
      | exact ih1 _ _ _ _ _ _ _
      | exact spec_l09Pair.mono _ _ _ _
      | exact spec_l09Power.mono _ _ _
      | exact LeO.none _
      | refine LeO.ite ?_ ?_
      | refine LeO.bind ?_ (fun _ => ?_)
theorem spec_l09Row.mono : ∀ a0 a1 a2 a3 a4 a5 k, LeO (spec_l09Row.f k a0 a1 a2 a3 a4 a5) (spec_l09Row.f (k + 1) a0 a1 a2 a3 a4 a5) := by
  intro a0 a1 a2 a3 a4 a5 k
  obtain ⟨ih0, ih1⟩ := spec_l09Row.mono_l k
  unfold spec_l09Row.f
  repeat' first
      | (with_reducible exact ih0 _ _ _ _ _ _ _ _ _)
      | (with_reducible exact ih1 _ _ _ _ _ _ _)
      | (with_reducible exact spec_l09Pair.mono _ _ _ _)
      | (with_reducible exact spec_l09Power.mono _ _ _)
      | (with_reducible exact LeO.refl _)
      | (with_reducible exact LeO.none _)
      | (with_reducible refine LeO.ite ?_ ?_)
      | (with_reducible refine LeO.bind ?_ (fun _ => ?_))
      | exact ih0 _ _ _ _ _ _ _ _ _
      | exact ih1 _ _ _ _ _ _ _
      | exact spec_l09Pair.mono _ _ _ _
      | exact spec_l09Power.mono _ _ _
      | exact LeO.none _
      | refine LeO.ite ?_ ?_
      | refine LeO.bind ?_ (fun _ => ?_)
def spec_l09Row.T1 : Bool × List (List Nat × List Nat) := (true, [([], []), ([], []), ([1], [1]), ([0, 2], [0, 2]), ([3], [3]), ([4, 4], [4]), ([], []), ([], []), ([], []), ([8], [8]), ([6, 7, 9], [6, 7, 9]), ([5, 10, 0, 1, 2, 3, 4, 5], [5]), ([10, 11, 0, 1, 2, 3, 4, 5, 6, 7, 8, 9, 10, 11], [10])])
def spec_l09Row.B1 : List Nat := [0, 0, 2, 7, 15, 31, 0, 0, 0, 256, 960, 2047, 4095]
theorem spec_l09Row.tab1 : rtab .any (opsOf Try.f58 1) = spec_l09Row.T1 := by kernel_rfl
theorem spec_l09Row.bits1 : waitsOk spec_l09Row.T1.2 spec_l09Row.B1 = true := by kernel_rfl
set_option maxHeartbeats 8000000 in
set_option maxRecDepth 100000 in
theorem spec_l09Row.calls (k : Nat) (a0 : Int) (a1 : Int) (a2 : Int) (a3 : Int) (a4 : Int) (a5 : Int) (r : List Int) (w : World) (h : spec_l09Row.f k a0 a1 a2 a3 a4 a5 = some r) :
    Calls Try.prog 58 #[.int .i64 a0, .int .i64 a1, .int .i64 a2, .int .i64 a3, .int .i64 a4, .int .i64 a5] w fun e w' => ∃ v0_ : Value, e = .returned (v0_) ∧ Kd.R (Kd.int .i64) 2 w' w.heap.size (fun _ => True) v0_ r ∧ Below w.heap.size w w' := by
  have HB := Aside0.mk (Below.refl w.heap.size w)
  have H : (if 0 ≤ (wrap64 (Int.tdiv (wrap64 (a0 * (wrap64 (a0 - 1)))) 2)) then (if (wrap64 (Int.tdiv (wrap64 (a0 * (wrap64 (a0 - 1)))) 2) : Int).toNat ≤ 35184372088832 then ((some (List.replicate (wrap64 (Int.tdiv (wrap64 (a0 * (wrap64 (a0 - 1)))) 2) : Int).toNat 0 : List Int)).bind fun y163 => ((spec_l09Pair.f k a0 a1 (wrap64 (a1 + 1))).bind fun t166 => (if a2 = a1 then (spec_l09Row.j0 k a0 a1 a2 a3 a4 a5 y163 t166 (a3 == (wrap64 (a1 + 1)))) else (spec_l09Row.j0 k a0 a1 a2 a3 a4 a5 y163 t166 false)))) else (none)) else (none)) = some r := h
  clear h
  obtain ⟨ji7, hji7⟩ : ∃ j_ : Int, (wrap64 (Int.tdiv (wrap64 (a0 * (wrap64 (a0 - 1)))) 2)) = j_ := ⟨_, rfl⟩
  replace H : (if 0 ≤ (ji7) then (if (ji7 : Int).toNat ≤ 35184372088832 then ((some (List.replicate (ji7 : Int).toNat 0 : List Int)).bind fun y163 => ((spec_l09Pair.f k a0 a1 (wrap64 (a1 + 1))).bind fun t166 => (if a2 = a1 then (spec_l09Row.j0 k a0 a1 a2 a3 a4 a5 y163 t166 (a3 == (wrap64 (a1 + 1)))) else (spec_l09Row.j0 k a0 a1 a2 a3 a4 a5 y163 t166 false)))) else (none)) else (none)) = some r := by first | (rw [hji7] at H; exact H) | (simp only [hji7] at H ⊢; exact H)
  have hji7w : (IntKind.i64.wrap (Int.tdiv (wrap64 (a0 * (wrap64 (a0 - 1)))) 2)) = ji7 := (i64_w _).trans hji7
  by_cases c8 : 0 ≤ (ji7)
  · rw [if_pos c8] at H
    have c8b0 := eq_true c8
    have c8b1 : decide (0 ≤ (ji7)) = true := decide_eq_true c8
    clear c8
    by_cases c9 : (ji7 : Int).toNat ≤ 35184372088832
    · rw [if_pos c9] at H
      have c9b0 := eq_true c9
      have c9b1 : decide ((ji7 : Int).toNat ≤ 35184372088832) = true := decide_eq_true c9
      clear c9
      obtain ⟨y163, hy163⟩ : ∃ y_ : List Int, y_ = (List.replicate (ji7 : Int).toNat 0) := ⟨_, rfl⟩
      replace H : ((spec_l09Pair.f k a0 a1 (wrap64 (a1 + 1))).bind fun t166 => (if a2 = a1 then (spec_l09Row.j0 k a0 a1 a2 a3 a4 a5 y163 t166 (a3 == (wrap64 (a1 + 1)))) else (spec_l09Row.j0 k a0 a1 a2 a3 a4 a5 y163 t166 false))) = some r := by first | (rw [hy163]; with_reducible exact H) | (have H2_ := (Option.bind_some _ _).symm.trans H; rw [hy163]; with_reducible exact H2_) | (have H2_ := (Option.bind_some _ _).symm.trans H; with_reducible exact H2_) | with_reducible exact H | (rw [hy163]; exact H) | exact H
      have Ny163 := Aside0.mk hy163
      clear hy163
      replace H := Option.bind_eq_some_iff.mp H
      obtain ⟨t166, A100, H⟩ := H
      replace H : (if a2 = a1 then (spec_l09Row.j0 k a0 a1 a2 a3 a4 a5 y163 t166 (a3 == (wrap64 (a1 + 1)))) else (spec_l09Row.j0 k a0 a1 a2 a3 a4 a5 y163 t166 false)) = some r := H
      have A10 := Aside0.mk A100
      clear A100
      have HC11 := Aside0.mk H
      clear H
      go_enter Try.func58, Try.ntmps58
      try go_wp2
      have n0_ := Aside0.mk (below_drew1 HB.out)
      clear HB
      have HB := n0_
      clear n0_
      refine start_ (n := 13) (S := fun w' => True) (ds := []) #[false, false, false, false, false, false, false, false, false, false, false, false, false] (by kernel_rfl) rfl rfl trivial (fun hHeld => ?_); refine with_tabW spec_l09Row.tab1 spec_l09Row.bits1 (fun HT_ HW_ => ?_)
      generalize w.drew = w12 at HB hHeld ⊢
      refine pure_ (i := 0) (N := some 15) (v := ?_) (a' := ?_) #[true, false, false, false, false, false, false, false, false, false, false, false, false] rfl rfl (any_of HT_.out (by kernel_rfl)) (fun _ _ _ h => h) (Or.inl ⟨by rfl, ?_⟩) ?_ ?_
      rotate_left
      · intro w'
        go_simp
        with_reducible rfl
      rotate_left
      · simp only [Act.put, List.setIfInBounds_toArray, List.set_cons_zero, List.set_cons_succ, i64_w, i32_w]
        rfl
      refine pure_ (i := 1) (N := some 16) (v := ?_) (a' := ?_) #[true, true, false, false, false, false, false, false, false, false, false, false, false] rfl rfl (any_of HT_.out (by kernel_rfl)) (fun _ _ _ h => h) (Or.inl ⟨by rfl, ?_⟩) ?_ ?_
      rotate_left
      · intro w'
        go_simp
        with_reducible rfl
      rotate_left
      · simp only [Act.put, List.setIfInBounds_toArray, List.set_cons_zero, List.set_cons_succ, i64_w, i32_w]
        rfl
      refine pure_ (i := 2) (N := some 17) (v := ?_) (a' := ?_) #[true, true, true, false, false, false, false, false, false, false, false, false, false] rfl rfl (any_of HT_.out (by kernel_rfl)) (fun _ _ _ h => h) (Or.inl ⟨by rfl, ?_⟩) ?_ ?_
      rotate_left
      · intro w'
        go_simp
        with_reducible rfl
      rotate_left
      · simp only [Act.put, List.setIfInBounds_toArray, List.set_cons_zero, List.set_cons_succ, i64_w, i32_w]
        rfl
      refine pure_ (i := 3) (N := some 18) (v := ?_) (a' := ?_) #[true, true, true, true, false, false, false, false, false, false, false, false, false] rfl rfl (any_of HT_.out (by kernel_rfl)) (fun _ _ _ h => h) (Or.inl ⟨by rfl, ?_⟩) ?_ ?_
      rotate_left
      · intro w'
        go_simp
        with_reducible rfl
      rotate_left
      · simp only [Act.put, List.setIfInBounds_toArray, List.set_cons_zero, List.set_cons_succ, i64_w, i32_w]
        rfl
      refine pure_ (i := 4) (N := some 19) (v := ?_) (a' := ?_) #[true, true, true, true, true, false, false, false, false, false, false, false, false] rfl rfl (any_of HT_.out (by kernel_rfl)) (fun _ _ _ h => h) (Or.inl ⟨by rfl, ?_⟩) ?_ ?_
      rotate_left
      · intro w'
        go_simp
        with_reducible rfl
      rotate_left
      · simp only [Act.put, List.setIfInBounds_toArray, List.set_cons_zero, List.set_cons_succ, i64_w, i32_w]
        rfl
      refine pure_ (i := 6) (N := some 21) (v := ?_) (a' := ?_) #[true, true, true, true, true, false, true, false, false, false, false, false, false] rfl rfl (any_of HT_.out (by kernel_rfl)) (fun _ _ _ h => h) (Or.inl ⟨by rfl, ?_⟩) ?_ ?_
      rotate_left
      · intro w'
        go_simp
        with_reducible rfl
      rotate_left
      · simp only [Act.put, List.setIfInBounds_toArray, List.set_cons_zero, List.set_cons_succ, i64_w, i32_w]
        rfl
      refine pure_ (i := 7) (N := some 22) (v := ?_) (a' := ?_) #[true, true, true, true, true, false, true, true, false, false, false, false, false] rfl rfl (any_of HT_.out (by kernel_rfl)) (fun _ _ _ h => h) (Or.inl ⟨by rfl, ?_⟩) ?_ ?_
      rotate_left
      · intro w'
        go_simp
        with_reducible rfl
      rotate_left
      · simp only [Act.put, List.setIfInBounds_toArray, List.set_cons_zero, List.set_cons_succ, i64_w, i32_w]
        rfl
      refine pure_ (i := 8) (N := some 23) (v := ?_) (a' := ?_) #[true, true, true, true, true, false, true, true, true, false, false, false, false] rfl rfl (any_of HT_.out (by kernel_rfl)) (fun _ _ _ h => h) (Or.inl ⟨by rfl, ?_⟩) ?_ ?_
      rotate_left
      · intro w'
        go_simp
        with_reducible rfl
      rotate_left
      · simp only [Act.put, List.setIfInBounds_toArray, List.set_cons_zero, List.set_cons_succ, i64_w, i32_w]
        rfl
      refine pure_ (i := 9) (N := some 24) (v := ?_) (a' := ?_) #[true, true, true, true, true, false, true, true, true, true, false, false, false] rfl rfl (any_of HT_.out (by kernel_rfl)) (fun _ _ _ h => h) (Or.inl ⟨by rfl, ?_⟩) ?_ ?_
      rotate_left
      · intro w'
        go_simp
        with_reducible rfl
      rotate_left
      · simp only [Act.put, List.setIfInBounds_toArray, List.set_cons_zero, List.set_cons_succ, i64_w, i32_w]
        rfl
      refine join_ (σ := Value) 2 #[true, true, true, true, true, true, true, true, true, true, true, false, false] (fun s_ => [(20, s_), (25, .int .i64 t166)]) (fun s_ w' => (Kd.R (Kd.int .i64) 2 w' w.heap.size (fun _ => True) s_ y163) ∧ (Below w.heap.size w w')) ?_ ?_
      rotate_left
      · intro hCont
        refine two_ (i := 5) (j := 10) (Ni := some 20) (Nj := some 25) #[true, true, true, true, true, true, true, true, true, true, false, false, false] #[true, true, true, true, true, false, true, true, true, true, true, false, false] rfl rfl rfl rfl (two_of HT_.out (by kernel_rfl)) (by decide) (by decide) (fun K hK => ?_) (fun K hK => ?_)
        · skip
          refine Kd.R_make_step (Kd.int .i64) _ 2 (by rfl) (N := 20) rfl 22 _ _ rfl ji7 rfl rfl Try.underlying22 (.int .i64 0) 8 info2 rfl (by decide) (by omega) 0 (ok := fun _ => True) (okp := fun _ => True) rfl (fun _ hk => hk) trivial (of_decide_eq_true (by first | (with_reducible assumption) | assumption)) (Nat.le_trans (Nat.mul_le_mul_right _ (of_decide_eq_true (by first | (with_reducible assumption) | assumption) : ji7.toNat ≤ 35184372088832)) (by omega)) (Below.refl _ _) (Nat.le_refl _) ?_
          intro v164 w13 ho14 hb hg_ hnew_
          clear hg_ hnew_
          (first | rw [← Ny163.out] at ho14 | (simp only [Int.reduceToNat] at ho14; rw [← Ny163.out] at ho14))
          have n0_ := Aside0.mk (Kd.R_lower ho14 (below_size (by repeat (first | (with_reducible first | exact HB.out | apply below_alloc | apply pw_below_drewN | apply below_drew1) | exact HB.out))))
          have n1_ := Aside0.mk (below_step (by repeat (first | (with_reducible first | exact HB.out | apply below_alloc | apply pw_below_drewN | apply below_drew1) | exact HB.out)) hb)
          clear HB
          have HO165 := n0_
          have HB := n1_
          clear n0_ n1_
          clear hb ho14
          refine hK.out _ _ trivial (fun hHeld => ?_)
          clear hK K
          refine norm_ (a' := ?_) ?_ ?_
          rotate_left
          · show Act.put _ (some 20) _ = _
            simp only [Act.put, List.setIfInBounds_toArray, List.set_cons_zero, List.set_cons_succ, i64_w, i32_w]
            rfl
          refine one_ (i := 10) (N := some 25) #[true, true, true, true, true, true, true, true, true, true, true, false, false] rfl rfl (one_of HT_.out (by kernel_rfl)) (by decide) (fun K hK => ?_)
          refine goes_ Try.func59 (by kernel_rfl) rfl #[.int .i64 a0, .int .i64 a1, .int .i64 (wrap64 (a1 + 1))] (by rfl) rfl rfl (by (try simp only [List.map_toArray, List.map_cons, List.map_nil]); first | done | rfl | (simp only [List.length_drop, List.length_take]; rfl)) ?_
          with_reducible refine (spec_l09Pair.calls k a0 a1 (wrap64 (a1 + 1)) t166 _ A10.out).mono ?_
          rintro e w' ⟨rfl, ⟨nd, rfl⟩⟩
          refine ⟨_, rfl, ?_⟩
          refine hK.out _ _ trivial (fun hHeld => ?_)
          clear hK K
          refine norm_ (a' := ?_) ?_ ?_
          rotate_left
          · show Act.put _ (some 25) _ = _
            simp only [Act.put, List.setIfInBounds_toArray, List.set_cons_zero, List.set_cons_succ, i64_w, i32_w]
            rfl
          exact norm_ (by simp only [putAll, Act.put, List.setIfInBounds_toArray, List.set_cons_zero, List.set_cons_succ]) (hCont (v164) _ ⟨(by (with_reducible repeat (first | apply Kd.R_alloc | apply Kd.R_drewN | apply Kd.R_drew)); exact HO165.out), (by repeat (first | (with_reducible first | exact HB.out | apply below_alloc | apply pw_below_drewN | apply below_drew1) | exact HB.out))⟩)
        · skip
          refine goes_ Try.func59 (by kernel_rfl) rfl #[.int .i64 a0, .int .i64 a1, .int .i64 (wrap64 (a1 + 1))] (by rfl) rfl rfl (by (try simp only [List.map_toArray, List.map_cons, List.map_nil]); first | done | rfl | (simp only [List.length_drop, List.length_take]; rfl)) ?_
          with_reducible refine (spec_l09Pair.calls k a0 a1 (wrap64 (a1 + 1)) t166 _ A10.out).mono ?_
          rintro e w' ⟨rfl, ⟨nd, rfl⟩⟩
          refine ⟨_, rfl, ?_⟩
          refine hK.out _ _ trivial (fun hHeld => ?_)
          clear hK K
          refine norm_ (a' := ?_) ?_ ?_
          rotate_left
          · show Act.put _ (some 25) _ = _
            simp only [Act.put, List.setIfInBounds_toArray, List.set_cons_zero, List.set_cons_succ, i64_w, i32_w]
            rfl
          refine one_ (i := 5) (N := some 20) #[true, true, true, true, true, true, true, true, true, true, true, false, false] rfl rfl (one_of HT_.out (by kernel_rfl)) (by decide) (fun K hK => ?_)
          refine Kd.R_make_step (Kd.int .i64) _ 2 (by rfl) (N := 20) rfl 22 _ _ rfl ji7 rfl rfl Try.underlying22 (.int .i64 0) 8 info2 rfl (by decide) (by omega) 0 (ok := fun _ => True) (okp := fun _ => True) rfl (fun _ hk => hk) trivial (of_decide_eq_true (by first | (with_reducible assumption) | assumption)) (Nat.le_trans (Nat.mul_le_mul_right _ (of_decide_eq_true (by first | (with_reducible assumption) | assumption) : ji7.toNat ≤ 35184372088832)) (by omega)) (Below.refl _ _) (Nat.le_refl _) ?_
          intro v164 w13 ho14 hb hg_ hnew_
          clear hg_ hnew_
          (first | rw [← Ny163.out] at ho14 | (simp only [Int.reduceToNat] at ho14; rw [← Ny163.out] at ho14))
          have n0_ := Aside0.mk (Kd.R_lower ho14 (below_size (by repeat (first | (with_reducible first | exact HB.out | apply below_alloc | apply pw_below_drewN | apply below_drew1) | exact HB.out))))
          have n1_ := Aside0.mk (below_step (by repeat (first | (with_reducible first | exact HB.out | apply below_alloc | apply pw_below_drewN | apply below_drew1) | exact HB.out)) hb)
          clear HB
          have HO165 := n0_
          have HB := n1_
          clear n0_ n1_
          clear hb ho14
          refine hK.out _ _ trivial (fun hHeld => ?_)
          clear hK K
          refine norm_ (a' := ?_) ?_ ?_
          rotate_left
          · show Act.put _ (some 20) _ = _
            simp only [Act.put, List.setIfInBounds_toArray, List.set_cons_zero, List.set_cons_succ, i64_w, i32_w]
            rfl
          exact norm_ (by simp only [putAll, Act.put, List.setIfInBounds_toArray, List.set_cons_zero, List.set_cons_succ]) (hCont (v164) _ ⟨(by (with_reducible repeat (first | apply Kd.R_alloc | apply Kd.R_drewN | apply Kd.R_drew)); exact HO165.out), (by repeat (first | (with_reducible first | exact HB.out | apply below_alloc | apply pw_below_drewN | apply below_drew1) | exact HB.out))⟩)
      rintro v164 w15 ⟨h0_, h1_⟩
      have n0_ : Aside0 (Kd.R (Kd.int .i64) 2 w15 w.heap.size (fun _ => True) v164 y163) := ⟨h0_⟩
      have n1_ : Aside0 (Below w.heap.size w w15) := ⟨h1_⟩
      clear HB
      clear h0_ h1_
      have HO165 := n0_
      have HB := n1_
      clear n0_ n1_
      have hHeld := trivial
      refine norm_ (a' := ?_) ?_ ?_
      rotate_left
      · simp only [putAll, Act.put, List.setIfInBounds_toArray, List.set_cons_zero, List.set_cons_succ]
        rfl
      refine pure_ (i := 11) (N := some 13) (v := ?_) (a' := ?_) #[true, true, true, true, true, true, true, true, true, true, true, true, false] rfl rfl (any_of HT_.out (by kernel_rfl)) (fun _ _ _ h => h) (Or.inl ⟨by rfl, ?_⟩) ?_ ?_
      rotate_left
      · intro w'
        go_simp
        with_reducible rfl
      rotate_left
      · simp only [Act.put, List.setIfInBounds_toArray, List.set_cons_zero, List.set_cons_succ, i64_w, i32_w]
        rfl
      refine pure_ (i := 12) (N := some 14) (v := ?_) (a' := ?_) #[true, true, true, true, true, true, true, true, true, true, true, true, true] rfl rfl (any_of HT_.out (by kernel_rfl)) (fun _ _ _ h => h) (Or.inl ⟨by rfl, ?_⟩) ?_ ?_
      rotate_left
      · intro w'
        go_simp
        with_reducible rfl
      rotate_left
      · simp only [Act.put, List.setIfInBounds_toArray, List.set_cons_zero, List.set_cons_succ, i64_w, i32_w]
        rfl
      refine done_ (done_of HT_.out (by kernel_rfl)) ?_
      go_upto_region 5 with (fail)
      go_cut [60] (fun v60 wc => ∃ (kq : Nat) (x60_10 : Bool), v60 = .bool x60_10 ∧ Aside0 (spec_l09Row.j0 kq a0 a1 a2 a3 a4 a5 y163 t166 x60_10 = some r) ∧ Aside0 (kq ≤ k) ∧ Aside0 (Kd.R (Kd.int .i64) 2 wc w.heap.size (fun _ => True) v164 y163) ∧ Aside0 (Below w.heap.size w wc))
      case first =>
        have H := HC11.out
        clear HC11
        by_cases c16 : a2 = a1
        · rw [if_pos c16] at H
          have c16b0 : (a2 == a1) = true := beq_iff_eq.mpr c16
          have c16b1 : (a2 != a1) = false := bne_eq_false_iff_eq.mpr c16
          clear c16
          (first | rw [c16b0] | (simp only [i64_w, i32_w]; rw [c16b0]) | skip)
          have H' := Aside0.mk H
          clear H
          go_wp2
          go_meet
          case rel => exact ⟨_, ((a3 == (wrap64 (a1 + 1)))), (by first | rfl | (simp; done) | (simp [*]; done)), H', ⟨by first | omega | exact Nat.le_refl _⟩, ⟨by (with_reducible repeat (first | apply Kd.R_alloc | apply Kd.R_drewN | apply Kd.R_drew)); exact HO165.out⟩, ⟨by repeat (first | (with_reducible first | exact HB.out | apply below_alloc | apply pw_below_drewN | apply below_drew1) | exact HB.out)⟩⟩
        · rw [if_neg c16] at H
          have c16b0 : (a2 == a1) = false := beq_eq_false_iff_ne.mpr c16
          have c16b1 : (a2 != a1) = true := bne_iff_ne.mpr c16
          (first | rw [c16b0] | (simp only [i64_w, i32_w]; rw [c16b0]) | skip)
          have H' := Aside0.mk H
          clear H
          go_wp2
          go_meet
          case rel => exact ⟨_, (false), (by first | rfl | (simp; done) | (simp [*]; done)), H', ⟨by first | omega | exact Nat.le_refl _⟩, ⟨by (with_reducible repeat (first | apply Kd.R_alloc | apply Kd.R_drewN | apply Kd.R_drew)); exact HO165.out⟩, ⟨by repeat (first | (with_reducible first | exact HB.out | apply below_alloc | apply pw_below_drewN | apply below_drew1) | exact HB.out)⟩⟩
      case rest =>
        clear HC11
        try clear c1
        try clear p2
        try clear c5
        try clear p6
        try clear c8
        try clear c8b0
        try clear c8b1
        try clear c9
        try clear c9b0
        try clear c9b1
        try clear c16
        try clear c16b0
        try clear c16b1
        obtain ⟨kq, x60_10, rfl, HA, HJ10, HO_13, HB⟩ := hcut
        cases kq with
        | zero => exact absurd HA.out (by simp [spec_l09Row.j0])
        | succ kj10 =>
          have H := HA.out
          clear HA
          simp only [spec_l09Row.j0] at H
          by_cases c17 : x60_10 = true
          · subst c17
            have H1 : ((spec_l09Mod.f (wrap64 ((Int.tmod (wrap64 (a5 * a4)) 10007) * a4))).bind fun t167 => (if 0 ≤ t166 then (if t166 < (y163.length : Int) then (some (y163.set (t166 : Int).toNat t167)) else (none)) else (none))) = some r := by rw [if_pos rfl] at H; exact H
            clear H
            have H := H1
            clear H1
            replace H := Option.bind_eq_some_iff.mp H
            obtain ⟨t167, A180, H⟩ := H
            replace H : (if 0 ≤ t166 then (if t166 < (y163.length : Int) then (some (y163.set (t166 : Int).toNat t167)) else (none)) else (none)) = some r := H
            have A18 := Aside0.mk A180
            clear A180
            by_cases c19 : 0 ≤ t166
            · rw [if_pos c19] at H
              have c19b0 : decide (0 ≤ t166) = true := decide_eq_true c19
              clear c19
              by_cases c20 : t166 < (y163.length : Int)
              · rw [if_pos c20] at H
                have c20b0 : decide (t166 < (y163.length : Int)) = true := decide_eq_true c20
                clear c20
                obtain ⟨y168, hy168⟩ : ∃ y_ : List Int, y_ = (y163.set (t166 : Int).toNat t167) := ⟨_, rfl⟩
                replace H : (some y168) = some r := by first | (rw [hy168]; with_reducible exact H) | (have H2_ := (Option.bind_some _ _).symm.trans H; rw [hy168]; with_reducible exact H2_) | (have H2_ := (Option.bind_some _ _).symm.trans H; with_reducible exact H2_) | with_reducible exact H | (rw [hy168]; exact H) | exact H
                have Ny168 := Aside0.mk hy168
                clear hy168
                obtain rfl := Option.some.inj H
                go_wp2_with (first | ((with_reducible refine gate_callee (f := 40) rfl ?_); refine goesL_ (some 78) rfl rfl Try.func40 (by kernel_rfl) rfl #[.int .i64 (wrap64 ((Int.tmod (wrap64 (a5 * a4)) 10007) * a4))] rfl (by (try simp only [List.map_toArray, List.map_cons, List.map_nil]); first | done | rfl | (simp only [List.length_drop, List.length_take]; rfl)) ?_; (with_reducible refine (spec_l09Mod.calls (wrap64 ((Int.tmod (wrap64 (a5 * a4)) 10007) * a4)) t167 _ A18.out).mono ?_); rintro e w' ⟨rfl, ⟨nd, rfl⟩⟩; refine ⟨_, rfl, ?_⟩; (try (rw [drewN_self wc]; generalize hq_ : World.drewN wc _ = wc; have n0_ : Aside0 (Kd.R (Kd.int .i64) 2 wc w.heap.size (fun _ => True) v164 y163) := ⟨by rw [← hq_]; exact (by (with_reducible repeat (first | apply Kd.R_alloc | apply Kd.R_drewN | apply Kd.R_drew)); exact HO_13.out)⟩; have n1_ : Aside0 (Below w.heap.size w wc) := ⟨by rw [← hq_]; exact (by repeat (first | (with_reducible first | exact HB.out | apply below_alloc | apply pw_below_drewN | apply below_drew1) | exact HB.out))⟩; clear HO_13 HB hq_; have HO_13 := n0_; have HB := n1_; clear n0_ n1_)); have p21 : 0 ≤ (t166 : Int) := of_decide_eq_true (by first | (with_reducible assumption) | assumption); have q21 : (t166 : Int) < ((y163.length : Int) : Int) := of_decide_eq_true (by first | (with_reducible assumption) | assumption); obtain ⟨go21, co21, eo21, gb21, gl21, cl21, HG21⟩ := Kd.R_form HO_13.out (by omega); (first | cases eo21 | (injection eo21 with ea_ en_ ec_; (first | subst ea_ | (injection ea_ with ea_; subst ea_)); subst ec_; clear en_)); have GB21 := Aside0.mk gb21; have GG21 := Aside0.mk HG21; clear gb21 gl21 HG21; obtain ⟨hx21_0, hf21_0⟩ := Kd.R_celln 0 HO_13.out (t166 : Int) p21 q21; replace p21 := eq_true p21; replace q21 := eq_true q21; obtain ⟨hy22_, hz22_⟩ := Kd.R_celln 0 HO_13.out (t166 : Int) (of_decide_eq_true (by first | (with_reducible assumption) | assumption)) (of_decide_eq_true (by first | (with_reducible assumption) | assumption)); have HP22 := Kd.R_putg HO_13.out (t166 : Int) t167) | ((with_reducible refine gate_store (t := 2) (p := 79) rfl ?_); refine store_event (t := 2) (p := 79) (v := ?vo_w23) (w1 := (wc.setCell ⟨go21, (t166 : Int).toNat, none⟩ (.int .i64 t167))) ?hg ?ho ?hn ?hr ?_; (case ho => rfl); (case hg => rfl); (case hn => rfl); (case hr => first | (go_simp; done) | (go_simp; rfl)); intro w23 hw; have hg : wc.grownBy w23 (some go21) := (by rw [hw]; exact HP22.2); have hp_ : Kd.R (Kd.int .i64) 2 w23 w.heap.size (fun _ => True) (.slice (some ⟨go21, 0, none⟩) y163.length co21) y168 := (by rw [hw, Ny168.out]; exact HP22.1); clear HP22; have n0_ := Aside0.mk (hp_); have n1_ := Aside0.mk ((by rw [hw]; exact below_set (HB.out) GB21.out : Below w.heap.size w w23)); clear HO_13; clear HB; have HO_13 := n0_; have HB := n1_; clear n0_ n1_; clear hg hw hp_))
                go_ret
                exact ⟨_, by first | rfl | (simp [errW_none, errW_some] <;> rfl) | (simp only [← hji7]; first | rfl | (simp [errW_none, errW_some] <;> rfl)) | (simp [*, errW_none, errW_some] <;> rfl), by (with_reducible repeat (first | apply Kd.R_alloc | apply Kd.R_drewN | apply Kd.R_drew)); exact HO_13.out, by repeat (first | (with_reducible first | exact HB.out | apply below_alloc | apply pw_below_drewN | apply below_drew1) | exact HB.out)⟩
              · rw [if_neg c20] at H
                exact absurd H (by simp)
            · rw [if_neg c19] at H
              exact absurd H (by simp)
          · replace c17 := Bool.eq_false_iff.mpr c17
            subst c17
            have H1 : (if a3 = a1 then ((spec_l09Pair.f kj10 a0 a2 a1).bind fun t169 => ((spec_l09Mod.f (wrap64 (1 - a4))).bind fun t170 => (if 0 ≤ t169 then (if t169 < (y163.length : Int) then ((spec_l09Pair.f kj10 a0 a2 (wrap64 (a1 + 1))).bind fun t172 => (if 0 ≤ t172 then (if t172 < (y163.length : Int) then (some ((y163.set (t169 : Int).toNat t170).set (t172 : Int).toNat a4)) else (none)) else (none))) else (none)) else (none)))) else (if a3 = (wrap64 (a1 + 1)) then ((spec_l09Pair.f kj10 a0 a2 a1).bind fun t174 => (if 0 ≤ t174 then (if t174 < (y163.length : Int) then ((spec_l09Power.f kj10 a4 (wrap64 ((wrap64 (a1 - a2)) + 1))).bind fun t176 => ((spec_l09Mod.f (wrap64 ((Int.tmod (wrap64 (a5 * t176)) 10007) * (wrap64 (a4 - 1))))).bind fun t177 => (if 0 ≤ t166 then (if t166 < (y163.length : Int) then (some ((y163.set (t174 : Int).toNat 1).set (t166 : Int).toNat t177)) else (none)) else (none)))) else (none)) else (none))) else (if a2 = a1 then ((spec_l09Mod.f (wrap64 ((Int.tmod (wrap64 (a5 * a4)) 10007) * (wrap64 (a4 - 1))))).bind fun t179 => (if 0 ≤ t166 then (if t166 < (y163.length : Int) then ((spec_l09Pair.f kj10 a0 (wrap64 (a1 + 1)) a3).bind fun t181 => (if 0 ≤ t181 then (if t181 < (y163.length : Int) then (some ((y163.set (t166 : Int).toNat t179).set (t181 : Int).toNat a4)) else (none)) else (none))) else (none)) else (none))) else (if a2 = (wrap64 (a1 + 1)) then ((spec_l09Pair.f kj10 a0 a1 a3).bind fun t183 => (if 0 ≤ t183 then (if t183 < (y163.length : Int) then ((spec_l09Pair.f kj10 a0 (wrap64 (a1 + 1)) a3).bind fun t185 => ((spec_l09Mod.f (wrap64 (1 - a4))).bind fun t186 => (if 0 ≤ t185 then (if t185 < (y163.length : Int) then (some ((y163.set (t183 : Int).toNat 1).set (t185 : Int).toNat t186)) else (none)) else (none)))) else (none)) else (none))) else ((spec_l09Pair.f kj10 a0 a2 a3).bind fun t188 => (if 0 ≤ t188 then (if t188 < (y163.length : Int) then ((some (y163.set (t188 : Int).toNat 1 : List Int)).bind fun y189 => (if a2 < a1 then (spec_l09Row.j1 kj10 a1 a2 a4 a5 y189 t166 (decide (a3 > (wrap64 (a1 + 1))))) else (spec_l09Row.j1 kj10 a1 a2 a4 a5 y189 t166 false))) else (none)) else (none))))))) = some r := by rw [if_neg (show ¬ (false = true) by decide)] at H; exact H
            clear H
            have H := H1
            clear H1
            by_cases c24 : a3 = a1
            · rw [if_pos c24] at H
              have c24b0 : (a3 == a1) = true := beq_iff_eq.mpr c24
              have c24b1 : (a3 != a1) = false := bne_eq_false_iff_eq.mpr c24
              clear c24
              replace H := Option.bind_eq_some_iff.mp H
              obtain ⟨t169, A250, H⟩ := H
              replace H : ((spec_l09Mod.f (wrap64 (1 - a4))).bind fun t170 => (if 0 ≤ t169 then (if t169 < (y163.length : Int) then ((spec_l09Pair.f kj10 a0 a2 (wrap64 (a1 + 1))).bind fun t172 => (if 0 ≤ t172 then (if t172 < (y163.length : Int) then (some ((y163.set (t169 : Int).toNat t170).set (t172 : Int).toNat a4)) else (none)) else (none))) else (none)) else (none))) = some r := H
              have A25 := Aside0.mk A250
              clear A250
              replace H := Option.bind_eq_some_iff.mp H
              obtain ⟨t170, A260, H⟩ := H
              replace H : (if 0 ≤ t169 then (if t169 < (y163.length : Int) then ((spec_l09Pair.f kj10 a0 a2 (wrap64 (a1 + 1))).bind fun t172 => (if 0 ≤ t172 then (if t172 < (y163.length : Int) then (some ((y163.set (t169 : Int).toNat t170).set (t172 : Int).toNat a4)) else (none)) else (none))) else (none)) else (none)) = some r := H
              have A26 := Aside0.mk A260
              clear A260
              by_cases c27 : 0 ≤ t169
              · rw [if_pos c27] at H
                have c27b0 : decide (0 ≤ t169) = true := decide_eq_true c27
                clear c27
                by_cases c28 : t169 < (y163.length : Int)
                · rw [if_pos c28] at H
                  have c28b0 : decide (t169 < (y163.length : Int)) = true := decide_eq_true c28
                  clear c28
                  obtain ⟨y171, hy171⟩ : ∃ y_ : List Int, y_ = (y163.set (t169 : Int).toNat t170) := ⟨_, rfl⟩
                  replace H : ((spec_l09Pair.f kj10 a0 a2 (wrap64 (a1 + 1))).bind fun t172 => (if 0 ≤ t172 then (if t172 < (y163.length : Int) then (some (y171.set (t172 : Int).toNat a4)) else (none)) else (none))) = some r := by first | (rw [hy171]; with_reducible exact H) | (have H2_ := (Option.bind_some _ _).symm.trans H; rw [hy171]; with_reducible exact H2_) | (have H2_ := (Option.bind_some _ _).symm.trans H; with_reducible exact H2_) | with_reducible exact H | (rw [hy171]; exact H) | exact H
                  have Ny171 := Aside0.mk hy171
                  clear hy171
                  replace H := Option.bind_eq_some_iff.mp H
                  obtain ⟨t172, A300, H⟩ := H
                  replace H : (if 0 ≤ t172 then (if t172 < (y163.length : Int) then (some (y171.set (t172 : Int).toNat a4)) else (none)) else (none)) = some r := H
                  have A30 := Aside0.mk A300
                  clear A300
                  by_cases c31 : 0 ≤ t172
                  · rw [if_pos c31] at H
                    have c31b0 : decide (0 ≤ t172) = true := decide_eq_true c31
                    clear c31
                    by_cases c32 : t172 < (y163.length : Int)
                    · rw [if_pos c32] at H
                      have c32b0 : decide (t172 < (y163.length : Int)) = true := decide_eq_true c32
                      clear c32
                      obtain ⟨y173, hy173⟩ : ∃ y_ : List Int, y_ = (y171.set (t172 : Int).toNat a4) := ⟨_, rfl⟩
                      replace H : (some y173) = some r := by first | (rw [hy173]; with_reducible exact H) | (have H2_ := (Option.bind_some _ _).symm.trans H; rw [hy173]; with_reducible exact H2_) | (have H2_ := (Option.bind_some _ _).symm.trans H; with_reducible exact H2_) | with_reducible exact H | (rw [hy173]; exact H) | exact H
                      have Ny173 := Aside0.mk hy173
                      clear hy173
                      obtain rfl := Option.some.inj H
                      go_wp2_with (first | ((with_reducible refine gate_callee (f := 59) rfl ?_); refine goesL_ (some 88) rfl rfl Try.func59 (by kernel_rfl) rfl #[.int .i64 a0, .int .i64 a2, .int .i64 a1] rfl (by (try simp only [List.map_toArray, List.map_cons, List.map_nil]); first | done | rfl | (simp only [List.length_drop, List.length_take]; rfl)) ?_; (with_reducible refine (spec_l09Pair.calls kj10 a0 a2 a1 t169 _ A25.out).mono ?_); rintro e w' ⟨rfl, ⟨nd, rfl⟩⟩; refine ⟨_, rfl, ?_⟩; (try (rw [drewN_self wc]; generalize hq_ : World.drewN wc _ = wc; have n0_ : Aside0 (Kd.R (Kd.int .i64) 2 wc w.heap.size (fun _ => True) v164 y163) := ⟨by rw [← hq_]; exact (by (with_reducible repeat (first | apply Kd.R_alloc | apply Kd.R_drewN | apply Kd.R_drew)); exact HO_13.out)⟩; have n1_ : Aside0 (Below w.heap.size w wc) := ⟨by rw [← hq_]; exact (by repeat (first | (with_reducible first | exact HB.out | apply below_alloc | apply pw_below_drewN | apply below_drew1) | exact HB.out))⟩; clear HO_13 HB hq_; have HO_13 := n0_; have HB := n1_; clear n0_ n1_))) | ((with_reducible refine gate_callee (f := 40) rfl ?_); refine goesL_ (some 91) rfl rfl Try.func40 (by kernel_rfl) rfl #[.int .i64 (wrap64 (1 - a4))] rfl (by (try simp only [List.map_toArray, List.map_cons, List.map_nil]); first | done | rfl | (simp only [List.length_drop, List.length_take]; rfl)) ?_; (with_reducible refine (spec_l09Mod.calls (wrap64 (1 - a4)) t170 _ A26.out).mono ?_); rintro e w' ⟨rfl, ⟨nd, rfl⟩⟩; refine ⟨_, rfl, ?_⟩; (try (rw [drewN_self wc]; generalize hq_ : World.drewN wc _ = wc; have n0_ : Aside0 (Kd.R (Kd.int .i64) 2 wc w.heap.size (fun _ => True) v164 y163) := ⟨by rw [← hq_]; exact (by (with_reducible repeat (first | apply Kd.R_alloc | apply Kd.R_drewN | apply Kd.R_drew)); exact HO_13.out)⟩; have n1_ : Aside0 (Below w.heap.size w wc) := ⟨by rw [← hq_]; exact (by repeat (first | (with_reducible first | exact HB.out | apply below_alloc | apply pw_below_drewN | apply below_drew1) | exact HB.out))⟩; clear HO_13 HB hq_; have HO_13 := n0_; have HB := n1_; clear n0_ n1_)); have p29 : 0 ≤ (t169 : Int) := of_decide_eq_true (by first | (with_reducible assumption) | assumption); have q29 : (t169 : Int) < ((y163.length : Int) : Int) := of_decide_eq_true (by first | (with_reducible assumption) | assumption); obtain ⟨go29, co29, eo29, gb29, gl29, cl29, HG29⟩ := Kd.R_form HO_13.out (by omega); (first | cases eo29 | (injection eo29 with ea_ en_ ec_; (first | subst ea_ | (injection ea_ with ea_; subst ea_)); subst ec_; clear en_)); have GB29 := Aside0.mk gb29; have GG29 := Aside0.mk HG29; clear gb29 gl29 HG29; obtain ⟨hx29_0, hf29_0⟩ := Kd.R_celln 0 HO_13.out (t169 : Int) p29 q29; replace p29 := eq_true p29; replace q29 := eq_true q29; obtain ⟨hy34_, hz34_⟩ := Kd.R_celln 0 HO_13.out (t169 : Int) (of_decide_eq_true (by first | (with_reducible assumption) | assumption)) (of_decide_eq_true (by first | (with_reducible assumption) | assumption)); have HP34 := Kd.R_putg HO_13.out (t169 : Int) t170) | ((with_reducible refine gate_store (t := 2) (p := 92) rfl ?_); refine store_event (t := 2) (p := 92) (v := ?vo_w35) (w1 := (wc.setCell ⟨go29, (t169 : Int).toNat, none⟩ (.int .i64 t170))) ?hg ?ho ?hn ?hr ?_; (case ho => rfl); (case hg => rfl); (case hn => rfl); (case hr => first | (go_simp; done) | (go_simp; rfl)); intro w35 hw; have hg : wc.grownBy w35 (some go29) := (by rw [hw]; exact HP34.2); have hp_ : Kd.R (Kd.int .i64) 2 w35 w.heap.size (fun _ => True) (.slice (some ⟨go29, 0, none⟩) y163.length co29) y171 := (by rw [hw, Ny171.out]; exact HP34.1); clear HP34; have n0_ := Aside0.mk (hp_); have n1_ := Aside0.mk ((by rw [hw]; exact below_set (HB.out) GB29.out : Below w.heap.size w w35)); clear HO_13; clear HB; have HO_13 := n0_; have HB := n1_; clear n0_ n1_; clear hg hw hp_) | ((with_reducible refine gate_callee (f := 59) rfl ?_); refine goesL_ (some 98) rfl rfl Try.func59 (by kernel_rfl) rfl #[.int .i64 a0, .int .i64 a2, .int .i64 (wrap64 (a1 + 1))] rfl (by (try simp only [List.map_toArray, List.map_cons, List.map_nil]); first | done | rfl | (simp only [List.length_drop, List.length_take]; rfl)) ?_; (with_reducible refine (spec_l09Pair.calls kj10 a0 a2 (wrap64 (a1 + 1)) t172 _ A30.out).mono ?_); rintro e w' ⟨rfl, ⟨nd, rfl⟩⟩; refine ⟨_, rfl, ?_⟩; (try (rw [drewN_self w35]; generalize hq_ : World.drewN w35 _ = w35; have n0_ : Aside0 (Kd.R (Kd.int .i64) 2 w35 w.heap.size (fun _ => True) (.slice (some ⟨go29, 0, none⟩) y163.length co29) y171) := ⟨by rw [← hq_]; exact (by (with_reducible repeat (first | apply Kd.R_alloc | apply Kd.R_drewN | apply Kd.R_drew)); exact HO_13.out)⟩; have n1_ : Aside0 (Below w.heap.size w w35) := ⟨by rw [← hq_]; exact (by repeat (first | (with_reducible first | exact HB.out | apply below_alloc | apply pw_below_drewN | apply below_drew1) | exact HB.out))⟩; clear HO_13 HB hq_; have HO_13 := n0_; have HB := n1_; clear n0_ n1_)); have p33 : 0 ≤ (t172 : Int) := of_decide_eq_true (by first | (with_reducible assumption) | assumption); have q33 : (t172 : Int) < ((y163.length : Int) : Int) := of_decide_eq_true (by first | (with_reducible assumption) | assumption); obtain ⟨hx33_0, hf33_0⟩ := Kd.R_celln 0 HO_13.out (t172 : Int) p33 q33; replace p33 := eq_true p33; replace q33 := eq_true q33; obtain ⟨hy36_, hz36_⟩ := Kd.R_celln 0 HO_13.out (t172 : Int) (of_decide_eq_true (by first | (with_reducible assumption) | assumption)) (of_decide_eq_true (by first | (with_reducible assumption) | assumption)); have HP36 := Kd.R_putg HO_13.out (t172 : Int) a4) | ((with_reducible refine gate_store (t := 2) (p := 100) rfl ?_); refine store_event (t := 2) (p := 100) (v := ?vo_w37) (w1 := (w35.setCell ⟨go29, (t172 : Int).toNat, none⟩ (.int .i64 a4))) ?hg ?ho ?hn ?hr ?_; (case ho => rfl); (case hg => rfl); (case hn => rfl); (case hr => first | (go_simp; done) | (go_simp; rfl)); intro w37 hw; have hg : w35.grownBy w37 (some go29) := (by rw [hw]; exact HP36.2); have hp_ : Kd.R (Kd.int .i64) 2 w37 w.heap.size (fun _ => True) (.slice (some ⟨go29, 0, none⟩) y163.length co29) y173 := (by rw [hw, Ny173.out]; exact HP36.1); clear HP36; have n0_ := Aside0.mk (hp_); have n1_ := Aside0.mk ((by rw [hw]; exact below_set (HB.out) GB29.out : Below w.heap.size w w37)); clear HO_13; clear HB; have HO_13 := n0_; have HB := n1_; clear n0_ n1_; clear hg hw hp_))
                      go_ret
                      exact ⟨_, by first | rfl | (simp [errW_none, errW_some] <;> rfl) | (simp only [← hji7]; first | rfl | (simp [errW_none, errW_some] <;> rfl)) | (simp [*, errW_none, errW_some] <;> rfl), by (with_reducible repeat (first | apply Kd.R_alloc | apply Kd.R_drewN | apply Kd.R_drew)); exact HO_13.out, by repeat (first | (with_reducible first | exact HB.out | apply below_alloc | apply pw_below_drewN | apply below_drew1) | exact HB.out)⟩
                    · rw [if_neg c32] at H
                      exact absurd H (by simp)
                  · rw [if_neg c31] at H
                    exact absurd H (by simp)
                · rw [if_neg c28] at H
                  exact absurd H (by simp)
              · rw [if_neg c27] at H
                exact absurd H (by simp)
            · rw [if_neg c24] at H
              have c24b0 : (a3 == a1) = false := beq_eq_false_iff_ne.mpr c24
              have c24b1 : (a3 != a1) = true := bne_iff_ne.mpr c24
              by_cases c38 : a3 = (wrap64 (a1 + 1))
              · rw [if_pos c38] at H
                have c38b0 : (a3 == (wrap64 (a1 + 1))) = true := beq_iff_eq.mpr c38
                have c38b1 : (a3 != (wrap64 (a1 + 1))) = false := bne_eq_false_iff_eq.mpr c38
                clear c38
                replace H := Option.bind_eq_some_iff.mp H
                obtain ⟨t174, A390, H⟩ := H
                replace H : (if 0 ≤ t174 then (if t174 < (y163.length : Int) then ((spec_l09Power.f kj10 a4 (wrap64 ((wrap64 (a1 - a2)) + 1))).bind fun t176 => ((spec_l09Mod.f (wrap64 ((Int.tmod (wrap64 (a5 * t176)) 10007) * (wrap64 (a4 - 1))))).bind fun t177 => (if 0 ≤ t166 then (if t166 < (y163.length : Int) then (some ((y163.set (t174 : Int).toNat 1).set (t166 : Int).toNat t177)) else (none)) else (none)))) else (none)) else (none)) = some r := H
                have A39 := Aside0.mk A390
                clear A390
                by_cases c40 : 0 ≤ t174
                · rw [if_pos c40] at H
                  have c40b0 : decide (0 ≤ t174) = true := decide_eq_true c40
                  clear c40
                  by_cases c41 : t174 < (y163.length : Int)
                  · rw [if_pos c41] at H
                    have c41b0 : decide (t174 < (y163.length : Int)) = true := decide_eq_true c41
                    clear c41
                    obtain ⟨y175, hy175⟩ : ∃ y_ : List Int, y_ = (y163.set (t174 : Int).toNat 1) := ⟨_, rfl⟩
                    replace H : ((spec_l09Power.f kj10 a4 (wrap64 ((wrap64 (a1 - a2)) + 1))).bind fun t176 => ((spec_l09Mod.f (wrap64 ((Int.tmod (wrap64 (a5 * t176)) 10007) * (wrap64 (a4 - 1))))).bind fun t177 => (if 0 ≤ t166 then (if t166 < (y163.length : Int) then (some (y175.set (t166 : Int).toNat t177)) else (none)) else (none)))) = some r := by first | (rw [hy175]; with_reducible exact H) | (have H2_ := (Option.bind_some _ _).symm.trans H; rw [hy175]; with_reducible exact H2_) | (have H2_ := (Option.bind_some _ _).symm.trans H; with_reducible exact H2_) | with_reducible exact H | (rw [hy175]; exact H) | exact H
                    have Ny175 := Aside0.mk hy175
                    clear hy175
                    replace H := Option.bind_eq_some_iff.mp H
                    obtain ⟨t176, A430, H⟩ := H
                    replace H : ((spec_l09Mod.f (wrap64 ((Int.tmod (wrap64 (a5 * t176)) 10007) * (wrap64 (a4 - 1))))).bind fun t177 => (if 0 ≤ t166 then (if t166 < (y163.length : Int) then (some (y175.set (t166 : Int).toNat t177)) else (none)) else (none))) = some r := H
                    have A43 := Aside0.mk A430
                    clear A430
                    replace H := Option.bind_eq_some_iff.mp H
                    obtain ⟨t177, A440, H⟩ := H
                    replace H : (if 0 ≤ t166 then (if t166 < (y163.length : Int) then (some (y175.set (t166 : Int).toNat t177)) else (none)) else (none)) = some r := H
                    have A44 := Aside0.mk A440
                    clear A440
                    by_cases c45 : 0 ≤ t166
                    · rw [if_pos c45] at H
                      have c45b0 : decide (0 ≤ t166) = true := decide_eq_true c45
                      clear c45
                      by_cases c46 : t166 < (y163.length : Int)
                      · rw [if_pos c46] at H
                        have c46b0 : decide (t166 < (y163.length : Int)) = true := decide_eq_true c46
                        clear c46
                        obtain ⟨y178, hy178⟩ : ∃ y_ : List Int, y_ = (y175.set (t166 : Int).toNat t177) := ⟨_, rfl⟩
                        replace H : (some y178) = some r := by first | (rw [hy178]; with_reducible exact H) | (have H2_ := (Option.bind_some _ _).symm.trans H; rw [hy178]; with_reducible exact H2_) | (have H2_ := (Option.bind_some _ _).symm.trans H; with_reducible exact H2_) | with_reducible exact H | (rw [hy178]; exact H) | exact H
                        have Ny178 := Aside0.mk hy178
                        clear hy178
                        obtain rfl := Option.some.inj H
                        go_wp2_with (first | ((with_reducible refine gate_callee (f := 59) rfl ?_); refine goesL_ (some 110) rfl rfl Try.func59 (by kernel_rfl) rfl #[.int .i64 a0, .int .i64 a2, .int .i64 a1] rfl (by (try simp only [List.map_toArray, List.map_cons, List.map_nil]); first | done | rfl | (simp only [List.length_drop, List.length_take]; rfl)) ?_; (with_reducible refine (spec_l09Pair.calls kj10 a0 a2 a1 t174 _ A39.out).mono ?_); rintro e w' ⟨rfl, ⟨nd, rfl⟩⟩; refine ⟨_, rfl, ?_⟩; (try (rw [drewN_self wc]; generalize hq_ : World.drewN wc _ = wc; have n0_ : Aside0 (Kd.R (Kd.int .i64) 2 wc w.heap.size (fun _ => True) v164 y163) := ⟨by rw [← hq_]; exact (by (with_reducible repeat (first | apply Kd.R_alloc | apply Kd.R_drewN | apply Kd.R_drew)); exact HO_13.out)⟩; have n1_ : Aside0 (Below w.heap.size w wc) := ⟨by rw [← hq_]; exact (by repeat (first | (with_reducible first | exact HB.out | apply below_alloc | apply pw_below_drewN | apply below_drew1) | exact HB.out))⟩; clear HO_13 HB hq_; have HO_13 := n0_; have HB := n1_; clear n0_ n1_)); have p42 : 0 ≤ (t174 : Int) := of_decide_eq_true (by first | (with_reducible assumption) | assumption); have q42 : (t174 : Int) < ((y163.length : Int) : Int) := of_decide_eq_true (by first | (with_reducible assumption) | assumption); obtain ⟨go42, co42, eo42, gb42, gl42, cl42, HG42⟩ := Kd.R_form HO_13.out (by omega); (first | cases eo42 | (injection eo42 with ea_ en_ ec_; (first | subst ea_ | (injection ea_ with ea_; subst ea_)); subst ec_; clear en_)); have GB42 := Aside0.mk gb42; have GG42 := Aside0.mk HG42; clear gb42 gl42 HG42; obtain ⟨hx42_0, hf42_0⟩ := Kd.R_celln 0 HO_13.out (t174 : Int) p42 q42; replace p42 := eq_true p42; replace q42 := eq_true q42; obtain ⟨hy48_, hz48_⟩ := Kd.R_celln 0 HO_13.out (t174 : Int) (of_decide_eq_true (by first | (with_reducible assumption) | assumption)) (of_decide_eq_true (by first | (with_reducible assumption) | assumption)); have HP48 := Kd.R_putg HO_13.out (t174 : Int) 1) | ((with_reducible refine gate_store (t := 2) (p := 111) rfl ?_); refine store_event (t := 2) (p := 111) (v := ?vo_w49) (w1 := (wc.setCell ⟨go42, (t174 : Int).toNat, none⟩ (.int .i64 1))) ?hg ?ho ?hn ?hr ?_; (case ho => rfl); (case hg => rfl); (case hn => rfl); (case hr => first | (go_simp; done) | (go_simp; rfl)); intro w49 hw; have hg : wc.grownBy w49 (some go42) := (by rw [hw]; exact HP48.2); have hp_ : Kd.R (Kd.int .i64) 2 w49 w.heap.size (fun _ => True) (.slice (some ⟨go42, 0, none⟩) y163.length co42) y175 := (by rw [hw, Ny175.out]; exact HP48.1); clear HP48; have n0_ := Aside0.mk (hp_); have n1_ := Aside0.mk ((by rw [hw]; exact below_set (HB.out) GB42.out : Below w.heap.size w w49)); clear HO_13; clear HB; have HO_13 := n0_; have HB := n1_; clear n0_ n1_; clear hg hw hp_) | ((with_reducible refine gate_callee (f := 60) rfl ?_); refine goesL_ (some 120) rfl rfl Try.func60 (by kernel_rfl) rfl #[.int .i64 a4, .int .i64 (wrap64 ((wrap64 (a1 - a2)) + 1))] rfl (by (try simp only [List.map_toArray, List.map_cons, List.map_nil]); first | done | rfl | (simp only [List.length_drop, List.length_take]; rfl)) ?_; (with_reducible refine (spec_l09Power.calls kj10 a4 (wrap64 ((wrap64 (a1 - a2)) + 1)) t176 _ A43.out).mono ?_); rintro e w' ⟨rfl, ⟨nd, rfl⟩⟩; refine ⟨_, rfl, ?_⟩; (try (rw [drewN_self w49]; generalize hq_ : World.drewN w49 _ = w49; have n0_ : Aside0 (Kd.R (Kd.int .i64) 2 w49 w.heap.size (fun _ => True) (.slice (some ⟨go42, 0, none⟩) y163.length co42) y175) := ⟨by rw [← hq_]; exact (by (with_reducible repeat (first | apply Kd.R_alloc | apply Kd.R_drewN | apply Kd.R_drew)); exact HO_13.out)⟩; have n1_ : Aside0 (Below w.heap.size w w49) := ⟨by rw [← hq_]; exact (by repeat (first | (with_reducible first | exact HB.out | apply below_alloc | apply pw_below_drewN | apply below_drew1) | exact HB.out))⟩; clear HO_13 HB hq_; have HO_13 := n0_; have HB := n1_; clear n0_ n1_))) | ((with_reducible refine gate_callee (f := 40) rfl ?_); refine goesL_ (some 126) rfl rfl Try.func40 (by kernel_rfl) rfl #[.int .i64 (wrap64 ((Int.tmod (wrap64 (a5 * t176)) 10007) * (wrap64 (a4 - 1))))] rfl (by (try simp only [List.map_toArray, List.map_cons, List.map_nil]); first | done | rfl | (simp only [List.length_drop, List.length_take]; rfl)) ?_; (with_reducible refine (spec_l09Mod.calls (wrap64 ((Int.tmod (wrap64 (a5 * t176)) 10007) * (wrap64 (a4 - 1)))) t177 _ A44.out).mono ?_); rintro e w' ⟨rfl, ⟨nd, rfl⟩⟩; refine ⟨_, rfl, ?_⟩; (try (rw [drewN_self w49]; generalize hq_ : World.drewN w49 _ = w49; have n0_ : Aside0 (Kd.R (Kd.int .i64) 2 w49 w.heap.size (fun _ => True) (.slice (some ⟨go42, 0, none⟩) y163.length co42) y175) := ⟨by rw [← hq_]; exact (by (with_reducible repeat (first | apply Kd.R_alloc | apply Kd.R_drewN | apply Kd.R_drew)); exact HO_13.out)⟩; have n1_ : Aside0 (Below w.heap.size w w49) := ⟨by rw [← hq_]; exact (by repeat (first | (with_reducible first | exact HB.out | apply below_alloc | apply pw_below_drewN | apply below_drew1) | exact HB.out))⟩; clear HO_13 HB hq_; have HO_13 := n0_; have HB := n1_; clear n0_ n1_)); have p47 : 0 ≤ (t166 : Int) := of_decide_eq_true (by first | (with_reducible assumption) | assumption); have q47 : (t166 : Int) < ((y163.length : Int) : Int) := of_decide_eq_true (by first | (with_reducible assumption) | assumption); obtain ⟨hx47_0, hf47_0⟩ := Kd.R_celln 0 HO_13.out (t166 : Int) p47 q47; replace p47 := eq_true p47; replace q47 := eq_true q47; obtain ⟨hy50_, hz50_⟩ := Kd.R_celln 0 HO_13.out (t166 : Int) (of_decide_eq_true (by first | (with_reducible assumption) | assumption)) (of_decide_eq_true (by first | (with_reducible assumption) | assumption)); have HP50 := Kd.R_putg HO_13.out (t166 : Int) t177) | ((with_reducible refine gate_store (t := 2) (p := 127) rfl ?_); refine store_event (t := 2) (p := 127) (v := ?vo_w51) (w1 := (w49.setCell ⟨go42, (t166 : Int).toNat, none⟩ (.int .i64 t177))) ?hg ?ho ?hn ?hr ?_; (case ho => rfl); (case hg => rfl); (case hn => rfl); (case hr => first | (go_simp; done) | (go_simp; rfl)); intro w51 hw; have hg : w49.grownBy w51 (some go42) := (by rw [hw]; exact HP50.2); have hp_ : Kd.R (Kd.int .i64) 2 w51 w.heap.size (fun _ => True) (.slice (some ⟨go42, 0, none⟩) y163.length co42) y178 := (by rw [hw, Ny178.out]; exact HP50.1); clear HP50; have n0_ := Aside0.mk (hp_); have n1_ := Aside0.mk ((by rw [hw]; exact below_set (HB.out) GB42.out : Below w.heap.size w w51)); clear HO_13; clear HB; have HO_13 := n0_; have HB := n1_; clear n0_ n1_; clear hg hw hp_))
                        go_ret
                        exact ⟨_, by first | rfl | (simp [errW_none, errW_some] <;> rfl) | (simp only [← hji7]; first | rfl | (simp [errW_none, errW_some] <;> rfl)) | (simp [*, errW_none, errW_some] <;> rfl), by (with_reducible repeat (first | apply Kd.R_alloc | apply Kd.R_drewN | apply Kd.R_drew)); exact HO_13.out, by repeat (first | (with_reducible first | exact HB.out | apply below_alloc | apply pw_below_drewN | apply below_drew1) | exact HB.out)⟩
                      · rw [if_neg c46] at H
                        exact absurd H (by simp)
                    · rw [if_neg c45] at H
                      exact absurd H (by simp)
                  · rw [if_neg c41] at H
                    exact absurd H (by simp)
                · rw [if_neg c40] at H
                  exact absurd H (by simp)
              · rw [if_neg c38] at H
                have c38b0 : (a3 == (wrap64 (a1 + 1))) = false := beq_eq_false_iff_ne.mpr c38
                have c38b1 : (a3 != (wrap64 (a1 + 1))) = true := bne_iff_ne.mpr c38
                by_cases c52 : a2 = a1
                · rw [if_pos c52] at H
                  have c52b0 : (a2 == a1) = true := beq_iff_eq.mpr c52
                  have c52b1 : (a2 != a1) = false := bne_eq_false_iff_eq.mpr c52
                  clear c52
                  replace H := Option.bind_eq_some_iff.mp H
                  obtain ⟨t179, A530, H⟩ := H
                  replace H : (if 0 ≤ t166 then (if t166 < (y163.length : Int) then ((spec_l09Pair.f kj10 a0 (wrap64 (a1 + 1)) a3).bind fun t181 => (if 0 ≤ t181 then (if t181 < (y163.length : Int) then (some ((y163.set (t166 : Int).toNat t179).set (t181 : Int).toNat a4)) else (none)) else (none))) else (none)) else (none)) = some r := H
                  have A53 := Aside0.mk A530
                  clear A530
                  by_cases c54 : 0 ≤ t166
                  · rw [if_pos c54] at H
                    have c54b0 : decide (0 ≤ t166) = true := decide_eq_true c54
                    clear c54
                    by_cases c55 : t166 < (y163.length : Int)
                    · rw [if_pos c55] at H
                      have c55b0 : decide (t166 < (y163.length : Int)) = true := decide_eq_true c55
                      clear c55
                      obtain ⟨y180, hy180⟩ : ∃ y_ : List Int, y_ = (y163.set (t166 : Int).toNat t179) := ⟨_, rfl⟩
                      replace H : ((spec_l09Pair.f kj10 a0 (wrap64 (a1 + 1)) a3).bind fun t181 => (if 0 ≤ t181 then (if t181 < (y163.length : Int) then (some (y180.set (t181 : Int).toNat a4)) else (none)) else (none))) = some r := by first | (rw [hy180]; with_reducible exact H) | (have H2_ := (Option.bind_some _ _).symm.trans H; rw [hy180]; with_reducible exact H2_) | (have H2_ := (Option.bind_some _ _).symm.trans H; with_reducible exact H2_) | with_reducible exact H | (rw [hy180]; exact H) | exact H
                      have Ny180 := Aside0.mk hy180
                      clear hy180
                      replace H := Option.bind_eq_some_iff.mp H
                      obtain ⟨t181, A570, H⟩ := H
                      replace H : (if 0 ≤ t181 then (if t181 < (y163.length : Int) then (some (y180.set (t181 : Int).toNat a4)) else (none)) else (none)) = some r := H
                      have A57 := Aside0.mk A570
                      clear A570
                      by_cases c58 : 0 ≤ t181
                      · rw [if_pos c58] at H
                        have c58b0 : decide (0 ≤ t181) = true := decide_eq_true c58
                        clear c58
                        by_cases c59 : t181 < (y163.length : Int)
                        · rw [if_pos c59] at H
                          have c59b0 : decide (t181 < (y163.length : Int)) = true := decide_eq_true c59
                          clear c59
                          obtain ⟨y182, hy182⟩ : ∃ y_ : List Int, y_ = (y180.set (t181 : Int).toNat a4) := ⟨_, rfl⟩
                          replace H : (some y182) = some r := by first | (rw [hy182]; with_reducible exact H) | (have H2_ := (Option.bind_some _ _).symm.trans H; rw [hy182]; with_reducible exact H2_) | (have H2_ := (Option.bind_some _ _).symm.trans H; with_reducible exact H2_) | with_reducible exact H | (rw [hy182]; exact H) | exact H
                          have Ny182 := Aside0.mk hy182
                          clear hy182
                          obtain rfl := Option.some.inj H
                          go_wp2_with (first | ((with_reducible refine gate_callee (f := 40) rfl ?_); refine goesL_ (some 141) rfl rfl Try.func40 (by kernel_rfl) rfl #[.int .i64 (wrap64 ((Int.tmod (wrap64 (a5 * a4)) 10007) * (wrap64 (a4 - 1))))] rfl (by (try simp only [List.map_toArray, List.map_cons, List.map_nil]); first | done | rfl | (simp only [List.length_drop, List.length_take]; rfl)) ?_; (with_reducible refine (spec_l09Mod.calls (wrap64 ((Int.tmod (wrap64 (a5 * a4)) 10007) * (wrap64 (a4 - 1)))) t179 _ A53.out).mono ?_); rintro e w' ⟨rfl, ⟨nd, rfl⟩⟩; refine ⟨_, rfl, ?_⟩; (try (rw [drewN_self wc]; generalize hq_ : World.drewN wc _ = wc; have n0_ : Aside0 (Kd.R (Kd.int .i64) 2 wc w.heap.size (fun _ => True) v164 y163) := ⟨by rw [← hq_]; exact (by (with_reducible repeat (first | apply Kd.R_alloc | apply Kd.R_drewN | apply Kd.R_drew)); exact HO_13.out)⟩; have n1_ : Aside0 (Below w.heap.size w wc) := ⟨by rw [← hq_]; exact (by repeat (first | (with_reducible first | exact HB.out | apply below_alloc | apply pw_below_drewN | apply below_drew1) | exact HB.out))⟩; clear HO_13 HB hq_; have HO_13 := n0_; have HB := n1_; clear n0_ n1_)); have p56 : 0 ≤ (t166 : Int) := of_decide_eq_true (by first | (with_reducible assumption) | assumption); have q56 : (t166 : Int) < ((y163.length : Int) : Int) := of_decide_eq_true (by first | (with_reducible assumption) | assumption); obtain ⟨go56, co56, eo56, gb56, gl56, cl56, HG56⟩ := Kd.R_form HO_13.out (by omega); (first | cases eo56 | (injection eo56 with ea_ en_ ec_; (first | subst ea_ | (injection ea_ with ea_; subst ea_)); subst ec_; clear en_)); have GB56 := Aside0.mk gb56; have GG56 := Aside0.mk HG56; clear gb56 gl56 HG56; obtain ⟨hx56_0, hf56_0⟩ := Kd.R_celln 0 HO_13.out (t166 : Int) p56 q56; replace p56 := eq_true p56; replace q56 := eq_true q56; obtain ⟨hy61_, hz61_⟩ := Kd.R_celln 0 HO_13.out (t166 : Int) (of_decide_eq_true (by first | (with_reducible assumption) | assumption)) (of_decide_eq_true (by first | (with_reducible assumption) | assumption)); have HP61 := Kd.R_putg HO_13.out (t166 : Int) t179) | ((with_reducible refine gate_store (t := 2) (p := 142) rfl ?_); refine store_event (t := 2) (p := 142) (v := ?vo_w62) (w1 := (wc.setCell ⟨go56, (t166 : Int).toNat, none⟩ (.int .i64 t179))) ?hg ?ho ?hn ?hr ?_; (case ho => rfl); (case hg => rfl); (case hn => rfl); (case hr => first | (go_simp; done) | (go_simp; rfl)); intro w62 hw; have hg : wc.grownBy w62 (some go56) := (by rw [hw]; exact HP61.2); have hp_ : Kd.R (Kd.int .i64) 2 w62 w.heap.size (fun _ => True) (.slice (some ⟨go56, 0, none⟩) y163.length co56) y180 := (by rw [hw, Ny180.out]; exact HP61.1); clear HP61; have n0_ := Aside0.mk (hp_); have n1_ := Aside0.mk ((by rw [hw]; exact below_set (HB.out) GB56.out : Below w.heap.size w w62)); clear HO_13; clear HB; have HO_13 := n0_; have HB := n1_; clear n0_ n1_; clear hg hw hp_) | ((with_reducible refine gate_callee (f := 59) rfl ?_); refine goesL_ (some 148) rfl rfl Try.func59 (by kernel_rfl) rfl #[.int .i64 a0, .int .i64 (wrap64 (a1 + 1)), .int .i64 a3] rfl (by (try simp only [List.map_toArray, List.map_cons, List.map_nil]); first | done | rfl | (simp only [List.length_drop, List.length_take]; rfl)) ?_; (with_reducible refine (spec_l09Pair.calls kj10 a0 (wrap64 (a1 + 1)) a3 t181 _ A57.out).mono ?_); rintro e w' ⟨rfl, ⟨nd, rfl⟩⟩; refine ⟨_, rfl, ?_⟩; (try (rw [drewN_self w62]; generalize hq_ : World.drewN w62 _ = w62; have n0_ : Aside0 (Kd.R (Kd.int .i64) 2 w62 w.heap.size (fun _ => True) (.slice (some ⟨go56, 0, none⟩) y163.length co56) y180) := ⟨by rw [← hq_]; exact (by (with_reducible repeat (first | apply Kd.R_alloc | apply Kd.R_drewN | apply Kd.R_drew)); exact HO_13.out)⟩; have n1_ : Aside0 (Below w.heap.size w w62) := ⟨by rw [← hq_]; exact (by repeat (first | (with_reducible first | exact HB.out | apply below_alloc | apply pw_below_drewN | apply below_drew1) | exact HB.out))⟩; clear HO_13 HB hq_; have HO_13 := n0_; have HB := n1_; clear n0_ n1_)); have p60 : 0 ≤ (t181 : Int) := of_decide_eq_true (by first | (with_reducible assumption) | assumption); have q60 : (t181 : Int) < ((y163.length : Int) : Int) := of_decide_eq_true (by first | (with_reducible assumption) | assumption); obtain ⟨hx60_0, hf60_0⟩ := Kd.R_celln 0 HO_13.out (t181 : Int) p60 q60; replace p60 := eq_true p60; replace q60 := eq_true q60; obtain ⟨hy63_, hz63_⟩ := Kd.R_celln 0 HO_13.out (t181 : Int) (of_decide_eq_true (by first | (with_reducible assumption) | assumption)) (of_decide_eq_true (by first | (with_reducible assumption) | assumption)); have HP63 := Kd.R_putg HO_13.out (t181 : Int) a4) | ((with_reducible refine gate_store (t := 2) (p := 150) rfl ?_); refine store_event (t := 2) (p := 150) (v := ?vo_w64) (w1 := (w62.setCell ⟨go56, (t181 : Int).toNat, none⟩ (.int .i64 a4))) ?hg ?ho ?hn ?hr ?_; (case ho => rfl); (case hg => rfl); (case hn => rfl); (case hr => first | (go_simp; done) | (go_simp; rfl)); intro w64 hw; have hg : w62.grownBy w64 (some go56) := (by rw [hw]; exact HP63.2); have hp_ : Kd.R (Kd.int .i64) 2 w64 w.heap.size (fun _ => True) (.slice (some ⟨go56, 0, none⟩) y163.length co56) y182 := (by rw [hw, Ny182.out]; exact HP63.1); clear HP63; have n0_ := Aside0.mk (hp_); have n1_ := Aside0.mk ((by rw [hw]; exact below_set (HB.out) GB56.out : Below w.heap.size w w64)); clear HO_13; clear HB; have HO_13 := n0_; have HB := n1_; clear n0_ n1_; clear hg hw hp_))
                          go_ret
                          exact ⟨_, by first | rfl | (simp [errW_none, errW_some] <;> rfl) | (simp only [← hji7]; first | rfl | (simp [errW_none, errW_some] <;> rfl)) | (simp [*, errW_none, errW_some] <;> rfl), by (with_reducible repeat (first | apply Kd.R_alloc | apply Kd.R_drewN | apply Kd.R_drew)); exact HO_13.out, by repeat (first | (with_reducible first | exact HB.out | apply below_alloc | apply pw_below_drewN | apply below_drew1) | exact HB.out)⟩
                        · rw [if_neg c59] at H
                          exact absurd H (by simp)
                      · rw [if_neg c58] at H
                        exact absurd H (by simp)
                    · rw [if_neg c55] at H
                      exact absurd H (by simp)
                  · rw [if_neg c54] at H
                    exact absurd H (by simp)
                · rw [if_neg c52] at H
                  have c52b0 : (a2 == a1) = false := beq_eq_false_iff_ne.mpr c52
                  have c52b1 : (a2 != a1) = true := bne_iff_ne.mpr c52
                  by_cases c65 : a2 = (wrap64 (a1 + 1))
                  · rw [if_pos c65] at H
                    have c65b0 : (a2 == (wrap64 (a1 + 1))) = true := beq_iff_eq.mpr c65
                    have c65b1 : (a2 != (wrap64 (a1 + 1))) = false := bne_eq_false_iff_eq.mpr c65
                    clear c65
                    replace H := Option.bind_eq_some_iff.mp H
                    obtain ⟨t183, A660, H⟩ := H
                    replace H : (if 0 ≤ t183 then (if t183 < (y163.length : Int) then ((spec_l09Pair.f kj10 a0 (wrap64 (a1 + 1)) a3).bind fun t185 => ((spec_l09Mod.f (wrap64 (1 - a4))).bind fun t186 => (if 0 ≤ t185 then (if t185 < (y163.length : Int) then (some ((y163.set (t183 : Int).toNat 1).set (t185 : Int).toNat t186)) else (none)) else (none)))) else (none)) else (none)) = some r := H
                    have A66 := Aside0.mk A660
                    clear A660
                    by_cases c67 : 0 ≤ t183
                    · rw [if_pos c67] at H
                      have c67b0 : decide (0 ≤ t183) = true := decide_eq_true c67
                      clear c67
                      by_cases c68 : t183 < (y163.length : Int)
                      · rw [if_pos c68] at H
                        have c68b0 : decide (t183 < (y163.length : Int)) = true := decide_eq_true c68
                        clear c68
                        obtain ⟨y184, hy184⟩ : ∃ y_ : List Int, y_ = (y163.set (t183 : Int).toNat 1) := ⟨_, rfl⟩
                        replace H : ((spec_l09Pair.f kj10 a0 (wrap64 (a1 + 1)) a3).bind fun t185 => ((spec_l09Mod.f (wrap64 (1 - a4))).bind fun t186 => (if 0 ≤ t185 then (if t185 < (y163.length : Int) then (some (y184.set (t185 : Int).toNat t186)) else (none)) else (none)))) = some r := by first | (rw [hy184]; with_reducible exact H) | (have H2_ := (Option.bind_some _ _).symm.trans H; rw [hy184]; with_reducible exact H2_) | (have H2_ := (Option.bind_some _ _).symm.trans H; with_reducible exact H2_) | with_reducible exact H | (rw [hy184]; exact H) | exact H
                        have Ny184 := Aside0.mk hy184
                        clear hy184
                        replace H := Option.bind_eq_some_iff.mp H
                        obtain ⟨t185, A700, H⟩ := H
                        replace H : ((spec_l09Mod.f (wrap64 (1 - a4))).bind fun t186 => (if 0 ≤ t185 then (if t185 < (y163.length : Int) then (some (y184.set (t185 : Int).toNat t186)) else (none)) else (none))) = some r := H
                        have A70 := Aside0.mk A700
                        clear A700
                        replace H := Option.bind_eq_some_iff.mp H
                        obtain ⟨t186, A710, H⟩ := H
                        replace H : (if 0 ≤ t185 then (if t185 < (y163.length : Int) then (some (y184.set (t185 : Int).toNat t186)) else (none)) else (none)) = some r := H
                        have A71 := Aside0.mk A710
                        clear A710
                        by_cases c72 : 0 ≤ t185
                        · rw [if_pos c72] at H
                          have c72b0 : decide (0 ≤ t185) = true := decide_eq_true c72
                          clear c72
                          by_cases c73 : t185 < (y163.length : Int)
                          · rw [if_pos c73] at H
                            have c73b0 : decide (t185 < (y163.length : Int)) = true := decide_eq_true c73
                            clear c73
                            obtain ⟨y187, hy187⟩ : ∃ y_ : List Int, y_ = (y184.set (t185 : Int).toNat t186) := ⟨_, rfl⟩
                            replace H : (some y187) = some r := by first | (rw [hy187]; with_reducible exact H) | (have H2_ := (Option.bind_some _ _).symm.trans H; rw [hy187]; with_reducible exact H2_) | (have H2_ := (Option.bind_some _ _).symm.trans H; with_reducible exact H2_) | with_reducible exact H | (rw [hy187]; exact H) | exact H
                            have Ny187 := Aside0.mk hy187
                            clear hy187
                            obtain rfl := Option.some.inj H
                            go_wp2_with (first | ((with_reducible refine gate_callee (f := 59) rfl ?_); refine goesL_ (some 160) rfl rfl Try.func59 (by kernel_rfl) rfl #[.int .i64 a0, .int .i64 a1, .int .i64 a3] rfl (by (try simp only [List.map_toArray, List.map_cons, List.map_nil]); first | done | rfl | (simp only [List.length_drop, List.length_take]; rfl)) ?_; (with_reducible refine (spec_l09Pair.calls kj10 a0 a1 a3 t183 _ A66.out).mono ?_); rintro e w' ⟨rfl, ⟨nd, rfl⟩⟩; refine ⟨_, rfl, ?_⟩; (try (rw [drewN_self wc]; generalize hq_ : World.drewN wc _ = wc; have n0_ : Aside0 (Kd.R (Kd.int .i64) 2 wc w.heap.size (fun _ => True) v164 y163) := ⟨by rw [← hq_]; exact (by (with_reducible repeat (first | apply Kd.R_alloc | apply Kd.R_drewN | apply Kd.R_drew)); exact HO_13.out)⟩; have n1_ : Aside0 (Below w.heap.size w wc) := ⟨by rw [← hq_]; exact (by repeat (first | (with_reducible first | exact HB.out | apply below_alloc | apply pw_below_drewN | apply below_drew1) | exact HB.out))⟩; clear HO_13 HB hq_; have HO_13 := n0_; have HB := n1_; clear n0_ n1_)); have p69 : 0 ≤ (t183 : Int) := of_decide_eq_true (by first | (with_reducible assumption) | assumption); have q69 : (t183 : Int) < ((y163.length : Int) : Int) := of_decide_eq_true (by first | (with_reducible assumption) | assumption); obtain ⟨go69, co69, eo69, gb69, gl69, cl69, HG69⟩ := Kd.R_form HO_13.out (by omega); (first | cases eo69 | (injection eo69 with ea_ en_ ec_; (first | subst ea_ | (injection ea_ with ea_; subst ea_)); subst ec_; clear en_)); have GB69 := Aside0.mk gb69; have GG69 := Aside0.mk HG69; clear gb69 gl69 HG69; obtain ⟨hx69_0, hf69_0⟩ := Kd.R_celln 0 HO_13.out (t183 : Int) p69 q69; replace p69 := eq_true p69; replace q69 := eq_true q69; obtain ⟨hy75_, hz75_⟩ := Kd.R_celln 0 HO_13.out (t183 : Int) (of_decide_eq_true (by first | (with_reducible assumption) | assumption)) (of_decide_eq_true (by first | (with_reducible assumption) | assumption)); have HP75 := Kd.R_putg HO_13.out (t183 : Int) 1) | ((with_reducible refine gate_store (t := 2) (p := 161) rfl ?_); refine store_event (t := 2) (p := 161) (v := ?vo_w76) (w1 := (wc.setCell ⟨go69, (t183 : Int).toNat, none⟩ (.int .i64 1))) ?hg ?ho ?hn ?hr ?_; (case ho => rfl); (case hg => rfl); (case hn => rfl); (case hr => first | (go_simp; done) | (go_simp; rfl)); intro w76 hw; have hg : wc.grownBy w76 (some go69) := (by rw [hw]; exact HP75.2); have hp_ : Kd.R (Kd.int .i64) 2 w76 w.heap.size (fun _ => True) (.slice (some ⟨go69, 0, none⟩) y163.length co69) y184 := (by rw [hw, Ny184.out]; exact HP75.1); clear HP75; have n0_ := Aside0.mk (hp_); have n1_ := Aside0.mk ((by rw [hw]; exact below_set (HB.out) GB69.out : Below w.heap.size w w76)); clear HO_13; clear HB; have HO_13 := n0_; have HB := n1_; clear n0_ n1_; clear hg hw hp_) | ((with_reducible refine gate_callee (f := 59) rfl ?_); refine goesL_ (some 167) rfl rfl Try.func59 (by kernel_rfl) rfl #[.int .i64 a0, .int .i64 (wrap64 (a1 + 1)), .int .i64 a3] rfl (by (try simp only [List.map_toArray, List.map_cons, List.map_nil]); first | done | rfl | (simp only [List.length_drop, List.length_take]; rfl)) ?_; (with_reducible refine (spec_l09Pair.calls kj10 a0 (wrap64 (a1 + 1)) a3 t185 _ A70.out).mono ?_); rintro e w' ⟨rfl, ⟨nd, rfl⟩⟩; refine ⟨_, rfl, ?_⟩; (try (rw [drewN_self w76]; generalize hq_ : World.drewN w76 _ = w76; have n0_ : Aside0 (Kd.R (Kd.int .i64) 2 w76 w.heap.size (fun _ => True) (.slice (some ⟨go69, 0, none⟩) y163.length co69) y184) := ⟨by rw [← hq_]; exact (by (with_reducible repeat (first | apply Kd.R_alloc | apply Kd.R_drewN | apply Kd.R_drew)); exact HO_13.out)⟩; have n1_ : Aside0 (Below w.heap.size w w76) := ⟨by rw [← hq_]; exact (by repeat (first | (with_reducible first | exact HB.out | apply below_alloc | apply pw_below_drewN | apply below_drew1) | exact HB.out))⟩; clear HO_13 HB hq_; have HO_13 := n0_; have HB := n1_; clear n0_ n1_))) | ((with_reducible refine gate_callee (f := 40) rfl ?_); refine goesL_ (some 170) rfl rfl Try.func40 (by kernel_rfl) rfl #[.int .i64 (wrap64 (1 - a4))] rfl (by (try simp only [List.map_toArray, List.map_cons, List.map_nil]); first | done | rfl | (simp only [List.length_drop, List.length_take]; rfl)) ?_; (with_reducible refine (spec_l09Mod.calls (wrap64 (1 - a4)) t186 _ A71.out).mono ?_); rintro e w' ⟨rfl, ⟨nd, rfl⟩⟩; refine ⟨_, rfl, ?_⟩; (try (rw [drewN_self w76]; generalize hq_ : World.drewN w76 _ = w76; have n0_ : Aside0 (Kd.R (Kd.int .i64) 2 w76 w.heap.size (fun _ => True) (.slice (some ⟨go69, 0, none⟩) y163.length co69) y184) := ⟨by rw [← hq_]; exact (by (with_reducible repeat (first | apply Kd.R_alloc | apply Kd.R_drewN | apply Kd.R_drew)); exact HO_13.out)⟩; have n1_ : Aside0 (Below w.heap.size w w76) := ⟨by rw [← hq_]; exact (by repeat (first | (with_reducible first | exact HB.out | apply below_alloc | apply pw_below_drewN | apply below_drew1) | exact HB.out))⟩; clear HO_13 HB hq_; have HO_13 := n0_; have HB := n1_; clear n0_ n1_)); have p74 : 0 ≤ (t185 : Int) := of_decide_eq_true (by first | (with_reducible assumption) | assumption); have q74 : (t185 : Int) < ((y163.length : Int) : Int) := of_decide_eq_true (by first | (with_reducible assumption) | assumption); obtain ⟨hx74_0, hf74_0⟩ := Kd.R_celln 0 HO_13.out (t185 : Int) p74 q74; replace p74 := eq_true p74; replace q74 := eq_true q74; obtain ⟨hy77_, hz77_⟩ := Kd.R_celln 0 HO_13.out (t185 : Int) (of_decide_eq_true (by first | (with_reducible assumption) | assumption)) (of_decide_eq_true (by first | (with_reducible assumption) | assumption)); have HP77 := Kd.R_putg HO_13.out (t185 : Int) t186) | ((with_reducible refine gate_store (t := 2) (p := 171) rfl ?_); refine store_event (t := 2) (p := 171) (v := ?vo_w78) (w1 := (w76.setCell ⟨go69, (t185 : Int).toNat, none⟩ (.int .i64 t186))) ?hg ?ho ?hn ?hr ?_; (case ho => rfl); (case hg => rfl); (case hn => rfl); (case hr => first | (go_simp; done) | (go_simp; rfl)); intro w78 hw; have hg : w76.grownBy w78 (some go69) := (by rw [hw]; exact HP77.2); have hp_ : Kd.R (Kd.int .i64) 2 w78 w.heap.size (fun _ => True) (.slice (some ⟨go69, 0, none⟩) y163.length co69) y187 := (by rw [hw, Ny187.out]; exact HP77.1); clear HP77; have n0_ := Aside0.mk (hp_); have n1_ := Aside0.mk ((by rw [hw]; exact below_set (HB.out) GB69.out : Below w.heap.size w w78)); clear HO_13; clear HB; have HO_13 := n0_; have HB := n1_; clear n0_ n1_; clear hg hw hp_))
                            go_ret
                            exact ⟨_, by first | rfl | (simp [errW_none, errW_some] <;> rfl) | (simp only [← hji7]; first | rfl | (simp [errW_none, errW_some] <;> rfl)) | (simp [*, errW_none, errW_some] <;> rfl), by (with_reducible repeat (first | apply Kd.R_alloc | apply Kd.R_drewN | apply Kd.R_drew)); exact HO_13.out, by repeat (first | (with_reducible first | exact HB.out | apply below_alloc | apply pw_below_drewN | apply below_drew1) | exact HB.out)⟩
                          · rw [if_neg c73] at H
                            exact absurd H (by simp)
                        · rw [if_neg c72] at H
                          exact absurd H (by simp)
                      · rw [if_neg c68] at H
                        exact absurd H (by simp)
                    · rw [if_neg c67] at H
                      exact absurd H (by simp)
                  · rw [if_neg c65] at H
                    have c65b0 : (a2 == (wrap64 (a1 + 1))) = false := beq_eq_false_iff_ne.mpr c65
                    have c65b1 : (a2 != (wrap64 (a1 + 1))) = true := bne_iff_ne.mpr c65
                    replace H := Option.bind_eq_some_iff.mp H
                    obtain ⟨t188, A790, H⟩ := H
                    replace H : (if 0 ≤ t188 then (if t188 < (y163.length : Int) then ((some (y163.set (t188 : Int).toNat 1 : List Int)).bind fun y189 => (if a2 < a1 then (spec_l09Row.j1 kj10 a1 a2 a4 a5 y189 t166 (decide (a3 > (wrap64 (a1 + 1))))) else (spec_l09Row.j1 kj10 a1 a2 a4 a5 y189 t166 false))) else (none)) else (none)) = some r := H
                    have A79 := Aside0.mk A790
                    clear A790
                    by_cases c80 : 0 ≤ t188
                    · rw [if_pos c80] at H
                      have c80b0 : decide (0 ≤ t188) = true := decide_eq_true c80
                      clear c80
                      by_cases c81 : t188 < (y163.length : Int)
                      · rw [if_pos c81] at H
                        have c81b0 : decide (t188 < (y163.length : Int)) = true := decide_eq_true c81
                        clear c81
                        obtain ⟨y189, hy189⟩ : ∃ y_ : List Int, y_ = (y163.set (t188 : Int).toNat 1) := ⟨_, rfl⟩
                        replace H : (if a2 < a1 then (spec_l09Row.j1 kj10 a1 a2 a4 a5 y189 t166 (decide (a3 > (wrap64 (a1 + 1))))) else (spec_l09Row.j1 kj10 a1 a2 a4 a5 y189 t166 false)) = some r := by first | (rw [hy189]; with_reducible exact H) | (have H2_ := (Option.bind_some _ _).symm.trans H; rw [hy189]; with_reducible exact H2_) | (have H2_ := (Option.bind_some _ _).symm.trans H; with_reducible exact H2_) | with_reducible exact H | (rw [hy189]; exact H) | exact H
                        have Ny189 := Aside0.mk hy189
                        clear hy189
                        have HC83 := Aside0.mk H
                        clear H
                        go_upto_region 3 with (first | ((with_reducible refine gate_callee (f := 59) rfl ?_); refine goesL_ (some 30) rfl rfl Try.func59 (by kernel_rfl) rfl #[.int .i64 a0, .int .i64 a2, .int .i64 a3] rfl (by (try simp only [List.map_toArray, List.map_cons, List.map_nil]); first | done | rfl | (simp only [List.length_drop, List.length_take]; rfl)) ?_; (with_reducible refine (spec_l09Pair.calls kj10 a0 a2 a3 t188 _ A79.out).mono ?_); rintro e w' ⟨rfl, ⟨nd, rfl⟩⟩; refine ⟨_, rfl, ?_⟩; (try (rw [drewN_self wc]; generalize hq_ : World.drewN wc _ = wc; have n0_ : Aside0 (Kd.R (Kd.int .i64) 2 wc w.heap.size (fun _ => True) v164 y163) := ⟨by rw [← hq_]; exact (by (with_reducible repeat (first | apply Kd.R_alloc | apply Kd.R_drewN | apply Kd.R_drew)); exact HO_13.out)⟩; have n1_ : Aside0 (Below w.heap.size w wc) := ⟨by rw [← hq_]; exact (by repeat (first | (with_reducible first | exact HB.out | apply below_alloc | apply pw_below_drewN | apply below_drew1) | exact HB.out))⟩; clear HO_13 HB hq_; have HO_13 := n0_; have HB := n1_; clear n0_ n1_)); have p82 : 0 ≤ (t188 : Int) := of_decide_eq_true (by first | (with_reducible assumption) | assumption); have q82 : (t188 : Int) < ((y163.length : Int) : Int) := of_decide_eq_true (by first | (with_reducible assumption) | assumption); obtain ⟨go82, co82, eo82, gb82, gl82, cl82, HG82⟩ := Kd.R_form HO_13.out (by omega); (first | cases eo82 | (injection eo82 with ea_ en_ ec_; (first | subst ea_ | (injection ea_ with ea_; subst ea_)); subst ec_; clear en_)); have GB82 := Aside0.mk gb82; have GG82 := Aside0.mk HG82; clear gb82 gl82 HG82; obtain ⟨hx82_0, hf82_0⟩ := Kd.R_celln 0 HO_13.out (t188 : Int) p82 q82; replace p82 := eq_true p82; replace q82 := eq_true q82; obtain ⟨hy84_, hz84_⟩ := Kd.R_celln 0 HO_13.out (t188 : Int) (of_decide_eq_true (by first | (with_reducible assumption) | assumption)) (of_decide_eq_true (by first | (with_reducible assumption) | assumption)); have HP84 := Kd.R_putg HO_13.out (t188 : Int) 1) | ((with_reducible refine gate_store (t := 2) (p := 31) rfl ?_); refine store_event (t := 2) (p := 31) (v := ?vo_w85) (w1 := (wc.setCell ⟨go82, (t188 : Int).toNat, none⟩ (.int .i64 1))) ?hg ?ho ?hn ?hr ?_; (case ho => rfl); (case hg => rfl); (case hn => rfl); (case hr => first | (go_simp; done) | (go_simp; rfl)); intro w85 hw; have hg : wc.grownBy w85 (some go82) := (by rw [hw]; exact HP84.2); have hp_ : Kd.R (Kd.int .i64) 2 w85 w.heap.size (fun _ => True) (.slice (some ⟨go82, 0, none⟩) y163.length co82) y189 := (by rw [hw, Ny189.out]; exact HP84.1); clear HP84; have n0_ := Aside0.mk (hp_); have n1_ := Aside0.mk ((by rw [hw]; exact below_set (HB.out) GB82.out : Below w.heap.size w w85)); clear HO_13; clear HB; have HO_13 := n0_; have HB := n1_; clear n0_ n1_; clear hg hw hp_))
                        (try simp only [Act.put, List.setIfInBounds_toArray, List.set_cons_zero, List.set_cons_succ])
                        go_cut [40] (fun v40 wc => ∃ (kq : Nat) (x40_82 : Bool), v40 = .bool x40_82 ∧ Aside0 (spec_l09Row.j1 kq a1 a2 a4 a5 y189 t166 x40_82 = some r) ∧ Aside0 (kq ≤ kj10) ∧ Aside0 (Kd.R (Kd.int .i64) 2 wc w.heap.size (fun _ => True) (.slice (some ⟨go82, 0, none⟩) y163.length co82) y189) ∧ Aside0 (Below w.heap.size w wc))
                        case first =>
                          have H := HC83.out
                          clear HC83
                          by_cases c86 : a2 < a1
                          · rw [if_pos c86] at H
                            have c86b0 : decide (a2 < a1) = true := decide_eq_true c86
                            clear c86
                            (first | rw [c86b0] | (simp only [i64_w, i32_w]; rw [c86b0]) | skip)
                            have H' := Aside0.mk H
                            clear H
                            go_wp2
                            go_meet
                            case rel => exact ⟨_, (decide (a3 > (wrap64 (a1 + 1)))), (by first | rfl | (simp; done) | (simp [*]; done)), H', ⟨by have := HJ10.out; first | omega | exact Nat.le_refl _⟩, ⟨by (with_reducible repeat (first | apply Kd.R_alloc | apply Kd.R_drewN | apply Kd.R_drew)); exact HO_13.out⟩, ⟨by repeat (first | (with_reducible first | exact HB.out | apply below_alloc | apply pw_below_drewN | apply below_drew1) | exact HB.out)⟩⟩
                          · rw [if_neg c86] at H
                            have c86b0 : decide (a2 < a1) = false := decide_eq_false c86
                            clear c86
                            (first | rw [c86b0] | (simp only [i64_w, i32_w]; rw [c86b0]) | skip)
                            have H' := Aside0.mk H
                            clear H
                            go_wp2
                            go_meet
                            case rel => exact ⟨_, (false), (by first | rfl | (simp; done) | (simp [*]; done)), H', ⟨by have := HJ10.out; first | omega | exact Nat.le_refl _⟩, ⟨by (with_reducible repeat (first | apply Kd.R_alloc | apply Kd.R_drewN | apply Kd.R_drew)); exact HO_13.out⟩, ⟨by repeat (first | (with_reducible first | exact HB.out | apply below_alloc | apply pw_below_drewN | apply below_drew1) | exact HB.out)⟩⟩
                        case rest =>
                          clear HC83
                          try clear c1
                          try clear c2
                          try clear p2
                          try clear q2
                          try clear hx2
                          try clear c3
                          try clear p3
                          try clear q3
                          try clear hx3
                          try clear c4
                          try clear p4
                          try clear q4
                          try clear hx4
                          try clear c5
                          try clear p5
                          try clear q5
                          try clear hx5
                          try clear c6
                          try clear p6
                          try clear q6
                          try clear hx6
                          try clear hf6
                          try clear c7
                          try clear p7
                          try clear q7
                          try clear hx7
                          try clear hf7
                          try clear c8
                          try clear c8b0
                          try clear c8b1
                          try clear p8
                          try clear q8
                          try clear hx8
                          try clear hf8
                          try clear c9
                          try clear c9b0
                          try clear c9b1
                          try clear c16
                          try clear c16b0
                          try clear c16b1
                          try clear c17
                          try clear c19
                          try clear c19b0
                          try clear c20
                          try clear c20b0
                          try clear p21
                          try clear q21
                          try clear hx21
                          try clear hf21
                          try clear c24
                          try clear c24b0
                          try clear c24b1
                          try clear c27
                          try clear c27b0
                          try clear c28
                          try clear c28b0
                          try clear p29
                          try clear q29
                          try clear hx29
                          try clear hf29
                          try clear c31
                          try clear c31b0
                          try clear c32
                          try clear c32b0
                          try clear p33
                          try clear q33
                          try clear hx33
                          try clear hf33
                          try clear c38
                          try clear c38b0
                          try clear c38b1
                          try clear c40
                          try clear c40b0
                          try clear c41
                          try clear c41b0
                          try clear p42
                          try clear q42
                          try clear hx42
                          try clear hf42
                          try clear c45
                          try clear c45b0
                          try clear c46
                          try clear c46b0
                          try clear p47
                          try clear q47
                          try clear hx47
                          try clear hf47
                          try clear c52
                          try clear c52b0
                          try clear c52b1
                          try clear c54
                          try clear c54b0
                          try clear c55
                          try clear c55b0
                          try clear p56
                          try clear q56
                          try clear hx56
                          try clear hf56
                          try clear c58
                          try clear c58b0
                          try clear c59
                          try clear c59b0
                          try clear c60
                          try clear p60
                          try clear q60
                          try clear hx60
                          try clear hf60
                          try clear p64
                          try clear c65
                          try clear c65b0
                          try clear c65b1
                          try clear c67
                          try clear c67b0
                          try clear c68
                          try clear c68b0
                          try clear p69
                          try clear q69
                          try clear hx69
                          try clear hf69
                          try clear c72
                          try clear c72b0
                          try clear c73
                          try clear c73b0
                          try clear p74
                          try clear q74
                          try clear hx74
                          try clear hf74
                          try clear c80
                          try clear c80b0
                          try clear c81
                          try clear c81b0
                          try clear p82
                          try clear q82
                          try clear hx82
                          try clear hf82
                          try clear c86
                          try clear c86b0
                          try clear hx21_0
                          try clear hx29_0
                          try clear hx33_0
                          try clear hx42_0
                          try clear hx47_0
                          try clear hx56_0
                          try clear hx60_0
                          try clear hx69_0
                          try clear hx74_0
                          try clear hx82_0
                          try clear p2
                          try clear p21
                          try clear p29
                          try clear p33
                          try clear p42
                          try clear p47
                          try clear p56
                          try clear p6
                          try clear p60
                          try clear p69
                          try clear p74
                          try clear p82
                          try clear q21
                          try clear q29
                          try clear q33
                          try clear q42
                          try clear q47
                          try clear q56
                          try clear q60
                          try clear q69
                          try clear q74
                          try clear q82
                          obtain ⟨kq, x40_82, rfl, HA, HJ82, HO_13, HB⟩ := hcut
                          have hl13_82 := (Kd.R_reads' HO_13.out).1
                          rw [hl13_82] at HO_13
                          (try simp only [hl13_82])
                          cases kq with
                          | zero => exact absurd HA.out (by simp [spec_l09Row.j1])
                          | succ kj82 =>
                            have H := HA.out
                            clear HA
                            simp only [spec_l09Row.j1] at H
                            by_cases c87 : x40_82 = true
                            · subst c87
                              have H1 : ((spec_l09Power.f kj82 a4 (wrap64 (a1 - a2))).bind fun t190 => ((spec_l09Mod.f (wrap64 ((Int.tmod (wrap64 (a5 * t190)) 10007) * (Int.tmod (wrap64 ((wrap64 (a4 - 1)) * (wrap64 (a4 - 1)))) 10007)))).bind fun t191 => (if 0 ≤ t166 then (if t166 < (y189.length : Int) then (some (y189.set (t166 : Int).toNat t191)) else (none)) else (none)))) = some r := by rw [if_pos rfl] at H; exact H
                              clear H
                              have H := H1
                              clear H1
                              replace H := Option.bind_eq_some_iff.mp H
                              obtain ⟨t190, A880, H⟩ := H
                              replace H : ((spec_l09Mod.f (wrap64 ((Int.tmod (wrap64 (a5 * t190)) 10007) * (Int.tmod (wrap64 ((wrap64 (a4 - 1)) * (wrap64 (a4 - 1)))) 10007)))).bind fun t191 => (if 0 ≤ t166 then (if t166 < (y189.length : Int) then (some (y189.set (t166 : Int).toNat t191)) else (none)) else (none))) = some r := H
                              have A88 := Aside0.mk A880
                              clear A880
                              replace H := Option.bind_eq_some_iff.mp H
                              obtain ⟨t191, A890, H⟩ := H
                              replace H : (if 0 ≤ t166 then (if t166 < (y189.length : Int) then (some (y189.set (t166 : Int).toNat t191)) else (none)) else (none)) = some r := H
                              have A89 := Aside0.mk A890
                              clear A890
                              by_cases c90 : 0 ≤ t166
                              · rw [if_pos c90] at H
                                have c90b0 : decide (0 ≤ t166) = true := decide_eq_true c90
                                clear c90
                                by_cases c91 : t166 < (y189.length : Int)
                                · rw [if_pos c91] at H
                                  have c91b0 : decide (t166 < (y189.length : Int)) = true := decide_eq_true c91
                                  clear c91
                                  obtain ⟨y192, hy192⟩ : ∃ y_ : List Int, y_ = (y189.set (t166 : Int).toNat t191) := ⟨_, rfl⟩
                                  replace H : (some y192) = some r := by first | (rw [hy192]; with_reducible exact H) | (have H2_ := (Option.bind_some _ _).symm.trans H; rw [hy192]; with_reducible exact H2_) | (have H2_ := (Option.bind_some _ _).symm.trans H; with_reducible exact H2_) | with_reducible exact H | (rw [hy192]; exact H) | exact H
                                  have Ny192 := Aside0.mk hy192
                                  clear hy192
                                  obtain rfl := Option.some.inj H
                                  go_wp2_with (first | ((with_reducible refine gate_callee (f := 60) rfl ?_); refine goesL_ (some 48) rfl rfl Try.func60 (by kernel_rfl) rfl #[.int .i64 a4, .int .i64 (wrap64 (a1 - a2))] rfl (by (try simp only [List.map_toArray, List.map_cons, List.map_nil]); first | done | rfl | (simp only [List.length_drop, List.length_take]; rfl)) ?_; (with_reducible refine (spec_l09Power.calls kj82 a4 (wrap64 (a1 - a2)) t190 _ A88.out).mono ?_); rintro e w' ⟨rfl, ⟨nd, rfl⟩⟩; refine ⟨_, rfl, ?_⟩; (try (rw [drewN_self wc]; generalize hq_ : World.drewN wc _ = wc; have n0_ : Aside0 (Kd.R (Kd.int .i64) 2 wc w.heap.size (fun _ => True) (.slice (some ⟨go82, 0, none⟩) y189.length co82) y189) := ⟨by rw [← hq_]; exact (by (with_reducible repeat (first | apply Kd.R_alloc | apply Kd.R_drewN | apply Kd.R_drew)); exact HO_13.out)⟩; have n1_ : Aside0 (Below w.heap.size w wc) := ⟨by rw [← hq_]; exact (by repeat (first | (with_reducible first | exact HB.out | apply below_alloc | apply pw_below_drewN | apply below_drew1) | exact HB.out))⟩; clear HO_13 HB hq_; have HO_13 := n0_; have HB := n1_; clear n0_ n1_))) | ((with_reducible refine gate_callee (f := 40) rfl ?_); refine goesL_ (some 58) rfl rfl Try.func40 (by kernel_rfl) rfl #[.int .i64 (wrap64 ((Int.tmod (wrap64 (a5 * t190)) 10007) * (Int.tmod (wrap64 ((wrap64 (a4 - 1)) * (wrap64 (a4 - 1)))) 10007)))] rfl (by (try simp only [List.map_toArray, List.map_cons, List.map_nil]); first | done | rfl | (simp only [List.length_drop, List.length_take]; rfl)) ?_; (with_reducible refine (spec_l09Mod.calls (wrap64 ((Int.tmod (wrap64 (a5 * t190)) 10007) * (Int.tmod (wrap64 ((wrap64 (a4 - 1)) * (wrap64 (a4 - 1)))) 10007))) t191 _ A89.out).mono ?_); rintro e w' ⟨rfl, ⟨nd, rfl⟩⟩; refine ⟨_, rfl, ?_⟩; (try (rw [drewN_self wc]; generalize hq_ : World.drewN wc _ = wc; have n0_ : Aside0 (Kd.R (Kd.int .i64) 2 wc w.heap.size (fun _ => True) (.slice (some ⟨go82, 0, none⟩) y189.length co82) y189) := ⟨by rw [← hq_]; exact (by (with_reducible repeat (first | apply Kd.R_alloc | apply Kd.R_drewN | apply Kd.R_drew)); exact HO_13.out)⟩; have n1_ : Aside0 (Below w.heap.size w wc) := ⟨by rw [← hq_]; exact (by repeat (first | (with_reducible first | exact HB.out | apply below_alloc | apply pw_below_drewN | apply below_drew1) | exact HB.out))⟩; clear HO_13 HB hq_; have HO_13 := n0_; have HB := n1_; clear n0_ n1_)); have p92 : 0 ≤ (t166 : Int) := of_decide_eq_true (by first | (with_reducible assumption) | assumption); have q92 : (t166 : Int) < ((y189.length : Int) : Int) := of_decide_eq_true (by first | (with_reducible assumption) | assumption); obtain ⟨hx92_0, hf92_0⟩ := Kd.R_celln 0 HO_13.out (t166 : Int) p92 q92; replace p92 := eq_true p92; replace q92 := eq_true q92; obtain ⟨hy93_, hz93_⟩ := Kd.R_celln 0 HO_13.out (t166 : Int) (of_decide_eq_true (by first | (with_reducible assumption) | assumption)) (of_decide_eq_true (by first | (with_reducible assumption) | assumption)); have HP93 := Kd.R_putg HO_13.out (t166 : Int) t191) | ((with_reducible refine gate_store (t := 2) (p := 59) rfl ?_); refine store_event (t := 2) (p := 59) (v := ?vo_w94) (w1 := (wc.setCell ⟨go82, (t166 : Int).toNat, none⟩ (.int .i64 t191))) ?hg ?ho ?hn ?hr ?_; (case ho => rfl); (case hg => rfl); (case hn => rfl); (case hr => first | (go_simp; done) | (go_simp; rfl)); intro w94 hw; have hg : wc.grownBy w94 (some go82) := (by rw [hw]; exact HP93.2); have hp_ : Kd.R (Kd.int .i64) 2 w94 w.heap.size (fun _ => True) (.slice (some ⟨go82, 0, none⟩) y189.length co82) y192 := (by rw [hw, Ny192.out]; exact HP93.1); clear HP93; have n0_ := Aside0.mk (hp_); have n1_ := Aside0.mk ((by rw [hw]; exact below_set (HB.out) GB82.out : Below w.heap.size w w94)); clear HO_13; clear HB; have HO_13 := n0_; have HB := n1_; clear n0_ n1_; clear hg hw hp_))
                                  go_ret
                                  exact ⟨_, by first | rfl | (simp [errW_none, errW_some] <;> rfl) | (simp only [← hji7]; first | rfl | (simp [errW_none, errW_some] <;> rfl)) | (simp [*, errW_none, errW_some] <;> rfl), by (with_reducible repeat (first | apply Kd.R_alloc | apply Kd.R_drewN | apply Kd.R_drew)); exact HO_13.out, by repeat (first | (with_reducible first | exact HB.out | apply below_alloc | apply pw_below_drewN | apply below_drew1) | exact HB.out)⟩
                                · rw [if_neg c91] at H
                                  exact absurd H (by simp)
                              · rw [if_neg c90] at H
                                exact absurd H (by simp)
                            · replace c87 := Bool.eq_false_iff.mpr c87
                              subst c87
                              have H1 : (some y189) = some r := by rw [if_neg (show ¬ (false = true) by decide)] at H; exact H
                              clear H
                              have H := H1
                              clear H1
                              obtain rfl := Option.some.inj H
                              go_wp2
                              go_ret
                              exact ⟨_, by first | rfl | (simp [errW_none, errW_some] <;> rfl) | (simp only [← hji7]; first | rfl | (simp [errW_none, errW_some] <;> rfl)) | (simp [*, errW_none, errW_some] <;> rfl), by (with_reducible repeat (first | apply Kd.R_alloc | apply Kd.R_drewN | apply Kd.R_drew)); exact HO_13.out, by repeat (first | (with_reducible first | exact HB.out | apply below_alloc | apply pw_below_drewN | apply below_drew1) | exact HB.out)⟩
                      · rw [if_neg c81] at H
                        exact absurd H (by simp)
                    · rw [if_neg c80] at H
                      exact absurd H (by simp)
    · rw [if_neg c9] at H
      exact absurd H (by simp)
  · rw [if_neg c8] at H
    exact absurd H (by simp)

end Go.Proofs.Ytifmdgffimckgaa.MFnExactKrammerTrace
