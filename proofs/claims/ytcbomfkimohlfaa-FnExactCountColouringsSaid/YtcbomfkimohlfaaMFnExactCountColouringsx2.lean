-- Walks of the functions that a law reaches, one after the other: plain functions, and that the machine's calls come to what they tell (wip/tools/myprint.py of this repo).
import Derived.Test.YtcbomfkimohlfaaMFnExactCountColouringsx0
import Derived.Test.YtcbomfkimohlfaaLibArr
import Derived.Test.YtcbomfkimohlfaaLibMx
import Derived.Test.YtcbomfkimohlfaaLibRk
namespace Go.Proofs.Ytcbomfkimohlfaa.MFnExactCountColourings
open Go.RowKit Go.Proofs.YtcbomfkimohlfaaW.PrintWords Go.Proofs.YtcbomfkimohlfaaW.PrintLast Go.Proofs.YtcbomfkimohlfaaW.PrintMore
open Go.Proofs.Ytcbomfkimohlfaa.LibRk
open Go.Proofs.Ytcbomfkimohlfaa.LibMx
open Go.Proofs.Ytcbomfkimohlfaa.LibArr
attribute [local go_sem] max2_int min2_int max_two min_two max_three min_three max_four min_four   -- for this text's walks alone
set_option linter.unusedVariables false
set_option linter.unusedSimpArgs false

/-! ### spec_l01Own: function 87 -/
def spec_l01Own.f (l0 : List Int) : Option (List Int) := (some (([] : List Int) : List Int)).bind fun y125 => (if y125.length + l0.length < 17592186044416 then (some (y125 ++ l0)) else (none))
set_option maxHeartbeats 8000000 in
set_option maxRecDepth 100000 in
theorem spec_l01Own.calls (A0 : Option Addr) (c0 : Nat) (l0 : List Int) (r : List Int) (w : World) (hr0 : Kd.C (Kd.int .i64) w A0 l0.length l0) (hc0 : l0.length ≤ c0) (h : spec_l01Own.f l0 = some r) :
    Calls Try.prog 87 #[.slice A0 l0.length c0] w fun e w' => ∃ v0_ : Value, e = .returned (v0_) ∧ Kd.R (Kd.int .i64) 2 w' w.heap.size (fun _ => True) v0_ r ∧ Below w.heap.size w w' := by
  have HR0 := Aside0.mk hr0
  have HC0 := Aside0.mk hc0
  clear hr0 hc0
  have HB := Aside0.mk (Below.refl w.heap.size w)
  have H : ((some (([] : List Int) : List Int)).bind fun y125 => (if y125.length + l0.length < 17592186044416 then (some (y125 ++ l0)) else (none))) = some r := h
  clear h
  obtain ⟨y125, hy125⟩ : ∃ y_ : List Int, y_ = (([] : List Int)) := ⟨_, rfl⟩
  replace H : (if y125.length + l0.length < 17592186044416 then (some (y125 ++ l0)) else (none)) = some r := by first | (rw [hy125]; with_reducible exact H) | (have H2_ := (Option.bind_some _ _).symm.trans H; rw [hy125]; with_reducible exact H2_) | (have H2_ := (Option.bind_some _ _).symm.trans H; with_reducible exact H2_) | with_reducible exact H | (rw [hy125]; exact H) | exact H
  have Ny125 := Aside0.mk hy125
  clear hy125
  by_cases c2 : y125.length + l0.length < 17592186044416
  · rw [if_pos c2] at H
    have LMc2 := Aside0.mk c2
    clear c2
    obtain ⟨y128, hy128⟩ : ∃ y_ : List Int, y_ = (y125 ++ l0) := ⟨_, rfl⟩
    replace H : (some y128) = some r := by first | (rw [hy128]; with_reducible exact H) | (have H2_ := (Option.bind_some _ _).symm.trans H; rw [hy128]; with_reducible exact H2_) | (have H2_ := (Option.bind_some _ _).symm.trans H; with_reducible exact H2_) | with_reducible exact H | (rw [hy128]; exact H) | exact H
    have Ny128 := Aside0.mk hy128
    clear hy128
    obtain rfl := Option.some.inj H
    go_enter Try.func87, Try.ntmps87
    go_wp2_with (first | ((with_reducible refine gate_dst (N := 3) rfl ?_); refine Kd.R_lit (Kd.int .i64) _ 2 ?hg (N := 3) ?hd (xs := ([] : List Int)) (inner := []) (ok := fun _ => True) (okp := fun _ => True) ?hr ?hp (fun _ hk => hk) trivial (Below.refl _ _) (Nat.le_refl _) (by simp) ?_; (case hd => rfl); (case hg => rfl); (case hr => first | (go_simp; done) | (go_simp; rfl)); (case hp => exact (Reps.none _ _)); intro v126 w3 ho4 hb hg_ hnew_; clear hg_ hnew_; (first | rw [← Ny125.out] at ho4 | (simp only [Int.reduceToNat] at ho4; rw [← Ny125.out] at ho4)); have n0_ := Aside0.mk (Kd.R_lower ho4 (below_size (by repeat (first | (with_reducible first | exact HB.out | apply below_alloc | apply pw_below_drewN | apply below_drew1) | exact HB.out)))); have n1_ := Aside0.mk (below_step (by repeat (first | (with_reducible first | exact HB.out | apply below_alloc | apply pw_below_drewN | apply below_drew1) | exact HB.out)) hb); clear HB; have HO127 := n0_; have HB := n1_; clear n0_ n1_; clear hb ho4) | ((with_reducible refine gate_builtin (b := .append) (xs := #[.tmp 3, .tmp 4]) rfl ?_); at_builtin; refine Kd.R_append_rows (Kd.int .i64) (w0 := w) w.heap.size rfl (.tmp 3) (.tmp 4) 22 2 (.int .i64 0) 8 rfl Try.underlying22 info2 rfl (by decide) (by omega) v126 y125 l0 _ _ _ (fun _ => True) (fun _ => False) rfl rfl ?aO ?aR (fun _ _ h => h) (fun _ h => h.elim) ?aF ?aB ?aS ?aL ?_; (case aR => repeat (first | exact (Kd.C_below HR0.out HB.out) | (with_reducible refine Kd.C_alloc ?_ _) | (with_reducible refine Kd.C_drewN ?_ _) | (with_reducible refine Kd.C_drew ?_))); (case aB => exact (by repeat (first | (with_reducible first | exact HB.out | apply below_alloc | apply pw_below_drewN | apply below_drew1) | exact HB.out))); (case aF => exact (fun _ _ => trivial)); (case aO => exact (by (with_reducible repeat (first | apply Kd.R_alloc | apply Kd.R_drewN | apply Kd.R_drew)); exact HO127.out)); (case aS => exact (below_size (by repeat (first | (with_reducible first | exact HB.out | apply below_alloc | apply pw_below_drewN | apply below_drew1) | exact HB.out)))); (case aL => have := LMc2.out; omega); intro v129 w5 ho hb hg hat; rw [← Ny128.out] at ho; have n0_ := Aside0.mk (hb); have n1_ := Aside0.mk (ho); clear HB; clear HO127; have HB := n0_; have HO130 := n1_; clear n0_ n1_; clear ho hb hg hat))
    go_ret
    exact ⟨_, by first | rfl | (simp [errW_none, errW_some] <;> rfl) | (simp [*, errW_none, errW_some] <;> rfl), by (with_reducible repeat (first | apply Kd.R_alloc | apply Kd.R_drewN | apply Kd.R_drew)); exact HO130.out, by repeat (first | (with_reducible first | exact HB.out | apply below_alloc | apply pw_below_drewN | apply below_drew1) | exact HB.out)⟩
  · rw [if_neg c2] at H
    exact absurd H (by simp)

/-! ### spec_l08Step: function 55 -/
def spec_l08Step.l0 : Nat → List Int → Int → List Int → Int → Option (List Int)
  | 0, _, _, _, _ => none
  | k + 1, x0, x1, x7, x8 => if x8 < (x0.length : Int) then (if 0 ≤ x8 then (if 0 ≤ (wrap64 ((mx (rd x0 x8) (wrap64 (-(rd x0 x8)))) - 1)) then (if (wrap64 ((mx (rd x0 x8) (wrap64 (-(rd x0 x8)))) - 1)) < (x7.length : Int) then (if 0 ≤ (mx (rd x0 x8) (wrap64 (-(rd x0 x8)))) then (if (mx (rd x0 x8) (wrap64 (-(rd x0 x8)))) < (x7.length : Int) then (if (rd x0 x8) > 0 then (if x1 = 0 then (none) else (spec_l08Step.l0 k x0 x1 ((x7.set ((wrap64 ((mx (rd x0 x8) (wrap64 (-(rd x0 x8)))) - 1)) : Int).toNat (Int.tmod (wrap64 ((wrap64 ((wrap64 (2 * (rd x7 (wrap64 ((mx (rd x0 x8) (wrap64 (-(rd x0 x8)))) - 1))))) - (rd x7 (mx (rd x0 x8) (wrap64 (-(rd x0 x8))))))) + x1)) x1)).set ((mx (rd x0 x8) (wrap64 (-(rd x0 x8)))) : Int).toNat (rd x7 (wrap64 ((mx (rd x0 x8) (wrap64 (-(rd x0 x8)))) - 1)))) (wrap64 (x8 + 1)))) else (if x1 = 0 then (none) else (spec_l08Step.l0 k x0 x1 ((x7.set ((wrap64 ((mx (rd x0 x8) (wrap64 (-(rd x0 x8)))) - 1)) : Int).toNat (rd x7 (mx (rd x0 x8) (wrap64 (-(rd x0 x8)))))).set ((mx (rd x0 x8) (wrap64 (-(rd x0 x8)))) : Int).toNat (Int.tmod (wrap64 ((wrap64 ((wrap64 (2 * (rd x7 (mx (rd x0 x8) (wrap64 (-(rd x0 x8))))))) - (rd x7 (wrap64 ((mx (rd x0 x8) (wrap64 (-(rd x0 x8)))) - 1))))) + x1)) x1)) (wrap64 (x8 + 1))))) else (none)) else (none)) else (none)) else (none)) else (none)) else (some x7)
def spec_l08Step.f (k : Nat) (l0 : List Int) (a1 : Int) (l2 : List Int) : Option (List Int) := (spec_l01Own.f l2).bind fun t131 => (spec_l08Step.l0 k l0 a1 t131 0)
theorem spec_l08Step.mono_l : ∀ k, (∀ y0 y1 y2 y3, LeO (spec_l08Step.l0 k y0 y1 y2 y3) (spec_l08Step.l0 (k + 1) y0 y1 y2 y3))
  | 0 => fun _ _ _ _ r h => by simp [spec_l08Step.l0] at h
  | k + 1 => by
    have ih0 := spec_l08Step.mono_l k
    · intro y0 y1 y2 y3
      unfold spec_l08Step.l0
      repeat' first
      | (with_reducible exact ih0 _ _ _ _)
      | (with_reducible exact LeO.refl _)
      | (with_reducible exact LeO.none _)
      | (with_reducible refine LeO.ite ?_ ?_)
      | (with_reducible refine LeO.bind ?_ (fun _ => ?_))
      | exact ih0 _ _ _ _
      | exact LeO.none _
      | refine LeO.ite ?_ ?_
      | refine LeO.bind ?_ (fun _ => ?_)
theorem spec_l08Step.mono : ∀ a0 a1 a2 k, LeO (spec_l08Step.f k a0 a1 a2) (spec_l08Step.f (k + 1) a0 a1 a2) := by
  intro a0 a1 a2 k
  have ih0 := spec_l08Step.mono_l k
  unfold spec_l08Step.f
  repeat' first
      | (with_reducible exact ih0 _ _ _ _)
      | (with_reducible exact LeO.refl _)
      | (with_reducible exact LeO.none _)
      | (with_reducible refine LeO.ite ?_ ?_)
      | (with_reducible refine LeO.bind ?_ (fun _ => ?_))
      | exact ih0 _ _ _ _
      | exact LeO.none _
      | refine LeO.ite ?_ ?_
      | refine LeO.bind ?_ (fun _ => ?_)
set_option maxHeartbeats 8000000 in
set_option maxRecDepth 100000 in
theorem spec_l08Step.calls (k : Nat) (A0 : Option Addr) (c0 : Nat) (l0 : List Int) (a1 : Int) (A2 : Option Addr) (c2 : Nat) (l2 : List Int) (r : List Int) (w : World) (hr0 : Kd.C (Kd.int .i64) w A0 l0.length l0) (hc0 : l0.length ≤ c0) (hr2 : Kd.C (Kd.int .i64) w A2 l2.length l2) (hc2 : l2.length ≤ c2) (h : spec_l08Step.f k l0 a1 l2 = some r) :
    Calls Try.prog 55 #[.slice A0 l0.length c0, .int .i64 a1, .slice A2 l2.length c2] w fun e w' => ∃ v0_ : Value, e = .returned (v0_) ∧ Kd.R (Kd.int .i64) 2 w' w.heap.size (fun _ => True) v0_ r ∧ Below w.heap.size w w' := by
  have HR0 := Aside0.mk hr0
  have HC0 := Aside0.mk hc0
  clear hr0 hc0
  have HR2 := Aside0.mk hr2
  have HC2 := Aside0.mk hc2
  clear hr2 hc2
  have HB := Aside0.mk (Below.refl w.heap.size w)
  have H : ((spec_l01Own.f l2).bind fun t131 => (spec_l08Step.l0 k l0 a1 t131 0)) = some r := h
  clear h
  replace H := Option.bind_eq_some_iff.mp H
  obtain ⟨t131, A40, H⟩ := H
  replace H : (spec_l08Step.l0 k l0 a1 t131 0) = some r := H
  have A4 := Aside0.mk A40
  clear A40
  have H' := Aside0.mk H
  clear H
  go_enter Try.func55, Try.ntmps55
  go_wp2_with (first | (go_at_call 87; (with_reducible refine (spec_l01Own.calls _ _ l2 t131 _ ?side1 ?side2 A4.out).mono ?_); (case side1 => repeat (first | exact HR2.out | (with_reducible refine Kd.C_alloc ?_ _) | (with_reducible refine Kd.C_drewN ?_ _) | (with_reducible refine Kd.C_drew ?_))); (case side2 => exact HC2.out); rintro e w5 ⟨v132, rfl, ho0, hb⟩; have n0_ := Aside0.mk (Kd.R_lower ho0 (below_size (by repeat (first | (with_reducible first | exact HB.out | apply below_alloc | apply pw_below_drewN | apply below_drew1) | exact HB.out)))); have n1_ := Aside0.mk (below_step (by repeat (first | (with_reducible first | exact HB.out | apply below_alloc | apply pw_below_drewN | apply below_drew1) | exact HB.out)) hb); clear HB; have HO133 := n0_; have HB := n1_; clear n0_ n1_; (try clear hb); (try clear hb2); (try clear hk); (try clear hi); (try clear ho0)))
  repeat (go_quiet (first | (go_at_call 87; (with_reducible refine (spec_l01Own.calls _ _ l2 t131 _ ?side1 ?side2 A4.out).mono ?_); (case side1 => repeat (first | exact HR2.out | (with_reducible refine Kd.C_alloc ?_ _) | (with_reducible refine Kd.C_drewN ?_ _) | (with_reducible refine Kd.C_drew ?_))); (case side2 => exact HC2.out); rintro e w5 ⟨v132, rfl, ho0, hb⟩; have n0_ := Aside0.mk (Kd.R_lower ho0 (below_size (by repeat (first | (with_reducible first | exact HB.out | apply below_alloc | apply pw_below_drewN | apply below_drew1) | exact HB.out)))); have n1_ := Aside0.mk (below_step (by repeat (first | (with_reducible first | exact HB.out | apply below_alloc | apply pw_below_drewN | apply below_drew1) | exact HB.out)) hb); clear HB; have HO133 := n0_; have HB := n1_; clear n0_ n1_; (try clear hb); (try clear hb2); (try clear hk); (try clear hi); (try clear ho0))); try go_wp2_with (first | (go_at_call 87; (with_reducible refine (spec_l01Own.calls _ _ l2 t131 _ ?side1 ?side2 A4.out).mono ?_); (case side1 => repeat (first | exact HR2.out | (with_reducible refine Kd.C_alloc ?_ _) | (with_reducible refine Kd.C_drewN ?_ _) | (with_reducible refine Kd.C_drew ?_))); (case side2 => exact HC2.out); rintro e w5 ⟨v132, rfl, ho0, hb⟩; have n0_ := Aside0.mk (Kd.R_lower ho0 (below_size (by repeat (first | (with_reducible first | exact HB.out | apply below_alloc | apply pw_below_drewN | apply below_drew1) | exact HB.out)))); have n1_ := Aside0.mk (below_step (by repeat (first | (with_reducible first | exact HB.out | apply below_alloc | apply pw_below_drewN | apply below_drew1) | exact HB.out)) hb); clear HB; have HO133 := n0_; have HB := n1_; clear n0_ n1_; (try clear hb); (try clear hb2); (try clear hk); (try clear hi); (try clear ho0))))
  go_loopg [8] k (fun kq v8 w' => ∃ (x7_1 : List Int) (x8_1 : Int), v8 = .int .i64 x8_1 ∧ Aside0 (spec_l08Step.l0 kq l0 a1 x7_1 x8_1 = some r) ∧ Aside0 (kq ≤ k) ∧ Aside0 (Kd.R (Kd.int .i64) 2 w' w.heap.size (fun _ => True) v132 x7_1) ∧ Aside0 (Below w.heap.size w w'))
  case atStart => exact ⟨(t131), (0), (by first | rfl | (simp; done) | (simp [*]; done)), H', ⟨Nat.le_refl _⟩, ⟨by (with_reducible repeat (first | apply Kd.R_alloc | apply Kd.R_drewN | apply Kd.R_drew)); exact HO133.out⟩, ⟨by repeat (first | (with_reducible first | exact HB.out | apply below_alloc | apply pw_below_drewN | apply below_drew1) | exact HB.out)⟩⟩
  case round =>
    clear H'
    try clear c2
    try clear p2
    try clear c5
    obtain ⟨x7_1, x8_1, rfl, HA, HK1, HO_7, HB⟩ := hrel
    cases gk with
    | zero => exact absurd HA.out (by simp [spec_l08Step.l0])
    | succ k1 =>
      have H := HA.out
      clear HA
      simp only [spec_l08Step.l0] at H
      by_cases c6 : x8_1 < (l0.length : Int)
      · rw [if_pos c6] at H
        have c6b0 : decide (x8_1 < (l0.length : Int)) = true := decide_eq_true c6
        clear c6
        by_cases c7 : 0 ≤ x8_1
        · rw [if_pos c7] at H
          have c7b0 : decide (0 ≤ x8_1) = true := decide_eq_true c7
          clear c7
          obtain ⟨ji8, hji8⟩ : ∃ j_ : Int, (mx (rd l0 x8_1) (wrap64 (-(rd l0 x8_1)))) = j_ := ⟨_, rfl⟩
          replace H : (if 0 ≤ (wrap64 ((ji8) - 1)) then (if (wrap64 ((ji8) - 1)) < (x7_1.length : Int) then (if 0 ≤ (ji8) then (if (ji8) < (x7_1.length : Int) then (if (rd l0 x8_1) > 0 then (if a1 = 0 then (none) else (spec_l08Step.l0 k1 l0 a1 ((x7_1.set ((wrap64 ((ji8) - 1)) : Int).toNat (Int.tmod (wrap64 ((wrap64 ((wrap64 (2 * (rd x7_1 (wrap64 ((ji8) - 1))))) - (rd x7_1 (ji8)))) + a1)) a1)).set ((ji8) : Int).toNat (rd x7_1 (wrap64 ((ji8) - 1)))) (wrap64 (x8_1 + 1)))) else (if a1 = 0 then (none) else (spec_l08Step.l0 k1 l0 a1 ((x7_1.set ((wrap64 ((ji8) - 1)) : Int).toNat (rd x7_1 (ji8))).set ((ji8) : Int).toNat (Int.tmod (wrap64 ((wrap64 ((wrap64 (2 * (rd x7_1 (ji8)))) - (rd x7_1 (wrap64 ((ji8) - 1))))) + a1)) a1)) (wrap64 (x8_1 + 1))))) else (none)) else (none)) else (none)) else (none)) = some r := by first | (rw [hji8] at H; exact H) | (simp only [hji8] at H ⊢; exact H)
          have hji8_ : (if (rd l0 x8_1) < (wrap64 (-(rd l0 x8_1))) then (wrap64 (-(rd l0 x8_1))) else (rd l0 x8_1)) = ji8 := hji8
          obtain ⟨ji9, hji9⟩ : ∃ j_ : Int, (wrap64 ((ji8) - 1)) = j_ := ⟨_, rfl⟩
          replace H : (if 0 ≤ (ji9) then (if (ji9) < (x7_1.length : Int) then (if 0 ≤ (ji8) then (if (ji8) < (x7_1.length : Int) then (if (rd l0 x8_1) > 0 then (if a1 = 0 then (none) else (spec_l08Step.l0 k1 l0 a1 ((x7_1.set ((ji9) : Int).toNat (Int.tmod (wrap64 ((wrap64 ((wrap64 (2 * (rd x7_1 (ji9)))) - (rd x7_1 (ji8)))) + a1)) a1)).set ((ji8) : Int).toNat (rd x7_1 (ji9))) (wrap64 (x8_1 + 1)))) else (if a1 = 0 then (none) else (spec_l08Step.l0 k1 l0 a1 ((x7_1.set ((ji9) : Int).toNat (rd x7_1 (ji8))).set ((ji8) : Int).toNat (Int.tmod (wrap64 ((wrap64 ((wrap64 (2 * (rd x7_1 (ji8)))) - (rd x7_1 (ji9)))) + a1)) a1)) (wrap64 (x8_1 + 1))))) else (none)) else (none)) else (none)) else (none)) = some r := by first | (rw [hji9] at H; exact H) | (simp only [hji9] at H ⊢; exact H)
          have hji9w : (IntKind.i64.wrap ((ji8) - 1)) = ji9 := (i64_w _).trans hji9
          by_cases c10 : 0 ≤ (ji9)
          · rw [if_pos c10] at H
            have c10b0 : decide (0 ≤ (ji9)) = true := decide_eq_true c10
            clear c10
            by_cases c11 : (ji9) < (x7_1.length : Int)
            · rw [if_pos c11] at H
              have c11b0 : decide ((ji9) < (x7_1.length : Int)) = true := decide_eq_true c11
              clear c11
              by_cases c12 : 0 ≤ (ji8)
              · rw [if_pos c12] at H
                have c12b0 : decide (0 ≤ (ji8)) = true := decide_eq_true c12
                clear c12
                by_cases c13 : (ji8) < (x7_1.length : Int)
                · rw [if_pos c13] at H
                  have c13b0 : decide ((ji8) < (x7_1.length : Int)) = true := decide_eq_true c13
                  clear c13
                  by_cases c14 : (rd l0 x8_1) > 0
                  · rw [if_pos c14] at H
                    have c14b0 : decide (0 < (rd l0 x8_1)) = true := decide_eq_true c14
                    clear c14
                    by_cases c15 : a1 = 0
                    · rw [if_pos c15] at H
                      exact absurd H (by simp)
                    · rw [if_neg c15] at H
                      have c15b0 : (a1 == 0) = false := beq_eq_false_iff_ne.mpr c15
                      have c15b1 : (a1 != 0) = true := bne_iff_ne.mpr c15
                      obtain ⟨y139, hy139⟩ : ∃ y_ : List Int, y_ = (x7_1.set ((ji9) : Int).toNat (Int.tmod (wrap64 ((wrap64 ((wrap64 (2 * (rd x7_1 (ji9)))) - (rd x7_1 (ji8)))) + a1)) a1)) := ⟨_, rfl⟩
                      replace H : (spec_l08Step.l0 k1 l0 a1 (y139.set ((ji8) : Int).toNat (rd x7_1 (ji9))) (wrap64 (x8_1 + 1))) = some r := by first | (rw [hy139]; with_reducible exact H) | (have H2_ := (Option.bind_some _ _).symm.trans H; rw [hy139]; with_reducible exact H2_) | (have H2_ := (Option.bind_some _ _).symm.trans H; with_reducible exact H2_) | with_reducible exact H | (rw [hy139]; exact H) | exact H
                      have Ny139 := Aside0.mk hy139
                      clear hy139
                      obtain ⟨y140, hy140⟩ : ∃ y_ : List Int, y_ = (y139.set ((ji8) : Int).toNat (rd x7_1 (ji9))) := ⟨_, rfl⟩
                      replace H : (spec_l08Step.l0 k1 l0 a1 y140 (wrap64 (x8_1 + 1))) = some r := by first | (rw [hy140]; with_reducible exact H) | (have H2_ := (Option.bind_some _ _).symm.trans H; rw [hy140]; with_reducible exact H2_) | (have H2_ := (Option.bind_some _ _).symm.trans H; with_reducible exact H2_) | with_reducible exact H | (rw [hy140]; exact H) | exact H
                      have Ny140 := Aside0.mk hy140
                      clear hy140
                      have H' := Aside0.mk H
                      clear H
                      have p134 : 0 ≤ (x8_1 : Int) := of_decide_eq_true (by first | (with_reducible assumption) | assumption)
                      have q134 : x8_1 < (l0.length : Int) := of_decide_eq_true (by first | (with_reducible assumption) | assumption)
                      obtain ⟨ad134, e134, hx134_0⟩ := Kd.at_int HR0.out x8_1 p134 q134
                      cases e134
                      replace hx134_0 := (HB.out.cell (World.block_lt_of_cell? w _ hx134_0)).trans hx134_0
                      replace p134 := eq_true p134
                      replace q134 := eq_true q134
                      have p135 : 0 ≤ (x8_1 : Int) := of_decide_eq_true (by first | (with_reducible assumption) | assumption)
                      have q135 : x8_1 < (l0.length : Int) := of_decide_eq_true (by first | (with_reducible assumption) | assumption)
                      obtain ⟨ad135, e135, hx135_0⟩ := Kd.at_int HR0.out x8_1 p135 q135
                      obtain rfl : ad134 = ad135 := (by injection e135)
                      replace hx135_0 := (HB.out.cell (World.block_lt_of_cell? w _ hx135_0)).trans hx135_0
                      replace p135 := eq_true p135
                      replace q135 := eq_true q135
                      obtain ⟨Ao18, co18, eo18⟩ := Kd.R_slice HO_7.out
                      subst eo18
                      have p136 : 0 ≤ ((ji9) : Int) := of_decide_eq_true (by first | (with_reducible assumption) | assumption)
                      have q136 : (ji9) < (x7_1.length : Int) := of_decide_eq_true (by first | (with_reducible assumption) | assumption)
                      obtain ⟨ad136, e136, hx136_0⟩ := Kd.at_int (Kd.R_reads' HO_7.out).2.2 (ji9) p136 q136
                      cases e136
                      replace p136 := eq_true p136
                      replace q136 := eq_true q136
                      have p137 : 0 ≤ ((ji8) : Int) := of_decide_eq_true (by first | (with_reducible assumption) | assumption)
                      have q137 : (ji8) < (x7_1.length : Int) := of_decide_eq_true (by first | (with_reducible assumption) | assumption)
                      obtain ⟨ad137, e137, hx137_0⟩ := Kd.at_int (Kd.R_reads' HO_7.out).2.2 (ji8) p137 q137
                      obtain rfl : ad136 = ad137 := (by injection e137)
                      replace p137 := eq_true p137
                      replace q137 := eq_true q137
                      have p138 : 0 ≤ (x8_1 : Int) := of_decide_eq_true (by first | (with_reducible assumption) | assumption)
                      have q138 : x8_1 < (l0.length : Int) := of_decide_eq_true (by first | (with_reducible assumption) | assumption)
                      obtain ⟨ad138, e138, hx138_0⟩ := Kd.at_int HR0.out x8_1 p138 q138
                      obtain rfl : ad134 = ad138 := (by injection e138)
                      replace hx138_0 := (HB.out.cell (World.block_lt_of_cell? w _ hx138_0)).trans hx138_0
                      replace p138 := eq_true p138
                      replace q138 := eq_true q138
                      have p16 : 0 ≤ ((ji9) : Int) := of_decide_eq_true (by first | (with_reducible assumption) | assumption)
                      have q16 : ((ji9) : Int) < ((x7_1.length : Int) : Int) := of_decide_eq_true (by first | (with_reducible assumption) | assumption)
                      obtain ⟨go16, co16, eo16, gb16, gl16, cl16, HG16⟩ := Kd.R_form HO_7.out (by omega)
                      (first | cases eo16 | (injection eo16 with ea_ en_ ec_; (first | subst ea_ | (injection ea_ with ea_; subst ea_)); subst ec_; clear en_))
                      have GB16 := Aside0.mk gb16
                      have GG16 := Aside0.mk HG16
                      clear gb16 gl16 HG16
                      (first | simp only [add_plain] at hx136_0 | skip)
                      (first | simp only [add_plain] at hx137_0 | skip)
                      obtain ⟨hx16_0, hf16_0⟩ := Kd.R_celln 0 HO_7.out ((ji9) : Int) p16 q16
                      replace p16 := eq_true p16
                      replace q16 := eq_true q16
                      obtain ⟨hy19_, hz19_⟩ := Kd.R_celln 0 HO_7.out ((ji9) : Int) (of_decide_eq_true (by first | (with_reducible assumption) | assumption)) (of_decide_eq_true (by first | (with_reducible assumption) | assumption))
                      have HP19 := Kd.R_putg HO_7.out ((ji9) : Int) (Int.tmod (wrap64 ((wrap64 ((wrap64 (2 * (rd x7_1 (ji9)))) - (rd x7_1 (ji8)))) + a1)) a1)
                      go_wp2_with (first | ((with_reducible refine gate_store (t := 2) (p := 55) rfl ?_); (try (rw [drewN_self wr]; generalize hq_ : World.drewN wr _ = wr; have n0_ := Aside0.mk (Kd.R_at hq_ HO_7.out); have n1_ := Aside0.mk (below_at hq_ HB.out); clear hq_ HO_7 HB; have HO_7 := n0_; have HB := n1_; clear n0_ n1_; (try (obtain ⟨hy19_, hz19_⟩ := Kd.R_celln 0 HO_7.out ((ji9) : Int) (of_decide_eq_true (by first | (with_reducible assumption) | assumption)) (of_decide_eq_true (by first | (with_reducible assumption) | assumption)))); (try (have HP19 := Kd.R_putg HO_7.out ((ji9) : Int) (Int.tmod (wrap64 ((wrap64 ((wrap64 (2 * (rd x7_1 (ji9)))) - (rd x7_1 (ji8)))) + a1)) a1))))); refine store_event (t := 2) (p := 55) (v := ?vo_w20) (w1 := (wr.setCell ⟨go16, ((ji9) : Int).toNat, none⟩ (.int .i64 (Int.tmod (wrap64 ((wrap64 ((wrap64 (2 * (rd x7_1 (ji9)))) - (rd x7_1 (ji8)))) + a1)) a1)))) ?hg ?ho ?hn ?hr ?_; (case ho => rfl); (case hg => rfl); (case hn => rfl); (case hr => first | (go_simp; done) | (go_simp; rfl)); intro w20 hw; have hg : wr.grownBy w20 (some go16) := (by rw [hw]; exact HP19.2); have hp_ : Kd.R (Kd.int .i64) 2 w20 w.heap.size (fun _ => True) (.slice (some ⟨go16, 0, none⟩) x7_1.length co18) y139 := (by rw [hw, Ny139.out]; exact HP19.1); clear HP19; have n0_ := Aside0.mk (hp_); have n1_ := Aside0.mk ((by rw [hw]; exact below_set (HB.out) GB16.out : Below w.heap.size w w20)); clear HO_7; clear HB; have HO_7 := n0_; have HB := n1_; clear n0_ n1_; clear hg hw hp_; have p17 : 0 ≤ ((ji8) : Int) := of_decide_eq_true (by first | (with_reducible assumption) | assumption); have q17 : ((ji8) : Int) < ((x7_1.length : Int) : Int) := of_decide_eq_true (by first | (with_reducible assumption) | assumption); obtain ⟨hx17_0, hf17_0⟩ := Kd.R_celln 0 HO_7.out ((ji8) : Int) p17 q17; replace p17 := eq_true p17; replace q17 := eq_true q17; obtain ⟨hy21_, hz21_⟩ := Kd.R_celln 0 HO_7.out ((ji8) : Int) (of_decide_eq_true (by first | (with_reducible assumption) | assumption)) (of_decide_eq_true (by first | (with_reducible assumption) | assumption)); have HP21 := Kd.R_putg HO_7.out ((ji8) : Int) (rd x7_1 (ji9))) | ((with_reducible refine gate_store (t := 2) (p := 59) rfl ?_); (try (rw [drewN_self w20]; generalize hq_ : World.drewN w20 _ = w20; have n0_ := Aside0.mk (Kd.R_at hq_ HO_7.out); have n1_ := Aside0.mk (below_at hq_ HB.out); clear hq_ HO_7 HB; have HO_7 := n0_; have HB := n1_; clear n0_ n1_; (try (obtain ⟨hy21_, hz21_⟩ := Kd.R_celln 0 HO_7.out ((ji8) : Int) (of_decide_eq_true (by first | (with_reducible assumption) | assumption)) (of_decide_eq_true (by first | (with_reducible assumption) | assumption)))); (try (have HP21 := Kd.R_putg HO_7.out ((ji8) : Int) (rd x7_1 (ji9)))))); refine store_event (t := 2) (p := 59) (v := ?vo_w22) (w1 := (w20.setCell ⟨go16, ((ji8) : Int).toNat, none⟩ (.int .i64 (rd x7_1 (ji9))))) ?hg ?ho ?hn ?hr ?_; (case ho => rfl); (case hg => rfl); (case hn => rfl); (case hr => first | (go_simp; done) | (go_simp; rfl)); intro w22 hw; have hg : w20.grownBy w22 (some go16) := (by rw [hw]; exact HP21.2); have hp_ : Kd.R (Kd.int .i64) 2 w22 w.heap.size (fun _ => True) (.slice (some ⟨go16, 0, none⟩) x7_1.length co18) y140 := (by rw [hw, Ny140.out]; exact HP21.1); clear HP21; have n0_ := Aside0.mk (hp_); have n1_ := Aside0.mk ((by rw [hw]; exact below_set (HB.out) GB16.out : Below w.heap.size w w22)); clear HO_7; clear HB; have HO_7 := n0_; have HB := n1_; clear n0_ n1_; clear hg hw hp_))
                      repeat (go_quiet (first | ((with_reducible refine gate_store (t := 2) (p := 55) rfl ?_); (try (rw [drewN_self wr]; generalize hq_ : World.drewN wr _ = wr; have n0_ := Aside0.mk (Kd.R_at hq_ HO_7.out); have n1_ := Aside0.mk (below_at hq_ HB.out); clear hq_ HO_7 HB; have HO_7 := n0_; have HB := n1_; clear n0_ n1_; (try (obtain ⟨hy19_, hz19_⟩ := Kd.R_celln 0 HO_7.out ((ji9) : Int) (of_decide_eq_true (by first | (with_reducible assumption) | assumption)) (of_decide_eq_true (by first | (with_reducible assumption) | assumption)))); (try (have HP19 := Kd.R_putg HO_7.out ((ji9) : Int) (Int.tmod (wrap64 ((wrap64 ((wrap64 (2 * (rd x7_1 (ji9)))) - (rd x7_1 (ji8)))) + a1)) a1))))); refine store_event (t := 2) (p := 55) (v := ?vo_w20) (w1 := (wr.setCell ⟨go16, ((ji9) : Int).toNat, none⟩ (.int .i64 (Int.tmod (wrap64 ((wrap64 ((wrap64 (2 * (rd x7_1 (ji9)))) - (rd x7_1 (ji8)))) + a1)) a1)))) ?hg ?ho ?hn ?hr ?_; (case ho => rfl); (case hg => rfl); (case hn => rfl); (case hr => first | (go_simp; done) | (go_simp; rfl)); intro w20 hw; have hg : wr.grownBy w20 (some go16) := (by rw [hw]; exact HP19.2); have hp_ : Kd.R (Kd.int .i64) 2 w20 w.heap.size (fun _ => True) (.slice (some ⟨go16, 0, none⟩) x7_1.length co18) y139 := (by rw [hw, Ny139.out]; exact HP19.1); clear HP19; have n0_ := Aside0.mk (hp_); have n1_ := Aside0.mk ((by rw [hw]; exact below_set (HB.out) GB16.out : Below w.heap.size w w20)); clear HO_7; clear HB; have HO_7 := n0_; have HB := n1_; clear n0_ n1_; clear hg hw hp_; have p17 : 0 ≤ ((ji8) : Int) := of_decide_eq_true (by first | (with_reducible assumption) | assumption); have q17 : ((ji8) : Int) < ((x7_1.length : Int) : Int) := of_decide_eq_true (by first | (with_reducible assumption) | assumption); obtain ⟨hx17_0, hf17_0⟩ := Kd.R_celln 0 HO_7.out ((ji8) : Int) p17 q17; replace p17 := eq_true p17; replace q17 := eq_true q17; obtain ⟨hy21_, hz21_⟩ := Kd.R_celln 0 HO_7.out ((ji8) : Int) (of_decide_eq_true (by first | (with_reducible assumption) | assumption)) (of_decide_eq_true (by first | (with_reducible assumption) | assumption)); have HP21 := Kd.R_putg HO_7.out ((ji8) : Int) (rd x7_1 (ji9))) | ((with_reducible refine gate_store (t := 2) (p := 59) rfl ?_); (try (rw [drewN_self w20]; generalize hq_ : World.drewN w20 _ = w20; have n0_ := Aside0.mk (Kd.R_at hq_ HO_7.out); have n1_ := Aside0.mk (below_at hq_ HB.out); clear hq_ HO_7 HB; have HO_7 := n0_; have HB := n1_; clear n0_ n1_; (try (obtain ⟨hy21_, hz21_⟩ := Kd.R_celln 0 HO_7.out ((ji8) : Int) (of_decide_eq_true (by first | (with_reducible assumption) | assumption)) (of_decide_eq_true (by first | (with_reducible assumption) | assumption)))); (try (have HP21 := Kd.R_putg HO_7.out ((ji8) : Int) (rd x7_1 (ji9)))))); refine store_event (t := 2) (p := 59) (v := ?vo_w22) (w1 := (w20.setCell ⟨go16, ((ji8) : Int).toNat, none⟩ (.int .i64 (rd x7_1 (ji9))))) ?hg ?ho ?hn ?hr ?_; (case ho => rfl); (case hg => rfl); (case hn => rfl); (case hr => first | (go_simp; done) | (go_simp; rfl)); intro w22 hw; have hg : w20.grownBy w22 (some go16) := (by rw [hw]; exact HP21.2); have hp_ : Kd.R (Kd.int .i64) 2 w22 w.heap.size (fun _ => True) (.slice (some ⟨go16, 0, none⟩) x7_1.length co18) y140 := (by rw [hw, Ny140.out]; exact HP21.1); clear HP21; have n0_ := Aside0.mk (hp_); have n1_ := Aside0.mk ((by rw [hw]; exact below_set (HB.out) GB16.out : Below w.heap.size w w22)); clear HO_7; clear HB; have HO_7 := n0_; have HB := n1_; clear n0_ n1_; clear hg hw hp_)); try go_wp2_with (first | ((with_reducible refine gate_store (t := 2) (p := 55) rfl ?_); (try (rw [drewN_self wr]; generalize hq_ : World.drewN wr _ = wr; have n0_ := Aside0.mk (Kd.R_at hq_ HO_7.out); have n1_ := Aside0.mk (below_at hq_ HB.out); clear hq_ HO_7 HB; have HO_7 := n0_; have HB := n1_; clear n0_ n1_; (try (obtain ⟨hy19_, hz19_⟩ := Kd.R_celln 0 HO_7.out ((ji9) : Int) (of_decide_eq_true (by first | (with_reducible assumption) | assumption)) (of_decide_eq_true (by first | (with_reducible assumption) | assumption)))); (try (have HP19 := Kd.R_putg HO_7.out ((ji9) : Int) (Int.tmod (wrap64 ((wrap64 ((wrap64 (2 * (rd x7_1 (ji9)))) - (rd x7_1 (ji8)))) + a1)) a1))))); refine store_event (t := 2) (p := 55) (v := ?vo_w20) (w1 := (wr.setCell ⟨go16, ((ji9) : Int).toNat, none⟩ (.int .i64 (Int.tmod (wrap64 ((wrap64 ((wrap64 (2 * (rd x7_1 (ji9)))) - (rd x7_1 (ji8)))) + a1)) a1)))) ?hg ?ho ?hn ?hr ?_; (case ho => rfl); (case hg => rfl); (case hn => rfl); (case hr => first | (go_simp; done) | (go_simp; rfl)); intro w20 hw; have hg : wr.grownBy w20 (some go16) := (by rw [hw]; exact HP19.2); have hp_ : Kd.R (Kd.int .i64) 2 w20 w.heap.size (fun _ => True) (.slice (some ⟨go16, 0, none⟩) x7_1.length co18) y139 := (by rw [hw, Ny139.out]; exact HP19.1); clear HP19; have n0_ := Aside0.mk (hp_); have n1_ := Aside0.mk ((by rw [hw]; exact below_set (HB.out) GB16.out : Below w.heap.size w w20)); clear HO_7; clear HB; have HO_7 := n0_; have HB := n1_; clear n0_ n1_; clear hg hw hp_; have p17 : 0 ≤ ((ji8) : Int) := of_decide_eq_true (by first | (with_reducible assumption) | assumption); have q17 : ((ji8) : Int) < ((x7_1.length : Int) : Int) := of_decide_eq_true (by first | (with_reducible assumption) | assumption); obtain ⟨hx17_0, hf17_0⟩ := Kd.R_celln 0 HO_7.out ((ji8) : Int) p17 q17; replace p17 := eq_true p17; replace q17 := eq_true q17; obtain ⟨hy21_, hz21_⟩ := Kd.R_celln 0 HO_7.out ((ji8) : Int) (of_decide_eq_true (by first | (with_reducible assumption) | assumption)) (of_decide_eq_true (by first | (with_reducible assumption) | assumption)); have HP21 := Kd.R_putg HO_7.out ((ji8) : Int) (rd x7_1 (ji9))) | ((with_reducible refine gate_store (t := 2) (p := 59) rfl ?_); (try (rw [drewN_self w20]; generalize hq_ : World.drewN w20 _ = w20; have n0_ := Aside0.mk (Kd.R_at hq_ HO_7.out); have n1_ := Aside0.mk (below_at hq_ HB.out); clear hq_ HO_7 HB; have HO_7 := n0_; have HB := n1_; clear n0_ n1_; (try (obtain ⟨hy21_, hz21_⟩ := Kd.R_celln 0 HO_7.out ((ji8) : Int) (of_decide_eq_true (by first | (with_reducible assumption) | assumption)) (of_decide_eq_true (by first | (with_reducible assumption) | assumption)))); (try (have HP21 := Kd.R_putg HO_7.out ((ji8) : Int) (rd x7_1 (ji9)))))); refine store_event (t := 2) (p := 59) (v := ?vo_w22) (w1 := (w20.setCell ⟨go16, ((ji8) : Int).toNat, none⟩ (.int .i64 (rd x7_1 (ji9))))) ?hg ?ho ?hn ?hr ?_; (case ho => rfl); (case hg => rfl); (case hn => rfl); (case hr => first | (go_simp; done) | (go_simp; rfl)); intro w22 hw; have hg : w20.grownBy w22 (some go16) := (by rw [hw]; exact HP21.2); have hp_ : Kd.R (Kd.int .i64) 2 w22 w.heap.size (fun _ => True) (.slice (some ⟨go16, 0, none⟩) x7_1.length co18) y140 := (by rw [hw, Ny140.out]; exact HP21.1); clear HP21; have n0_ := Aside0.mk (hp_); have n1_ := Aside0.mk ((by rw [hw]; exact below_set (HB.out) GB16.out : Below w.heap.size w w22)); clear HO_7; clear HB; have HO_7 := n0_; have HB := n1_; clear n0_ n1_; clear hg hw hp_)))
                      go_roundg k1
                      case measure => have := HK1.out; omega
                      case rel => exact ⟨(y140), (wrap64 (x8_1 + 1)), (by first | rfl | (simp; done) | (simp [*]; done)), H', ⟨by have := HK1.out; omega⟩, ⟨by (with_reducible repeat (first | apply Kd.R_alloc | apply Kd.R_drewN | apply Kd.R_drew)); exact HO_7.out⟩, ⟨by repeat (first | (with_reducible first | exact HB.out | apply below_alloc | apply pw_below_drewN | apply below_drew1) | exact HB.out)⟩⟩
                  · rw [if_neg c14] at H
                    have c14b0 : decide (0 < (rd l0 x8_1)) = false := decide_eq_false c14
                    clear c14
                    obtain ⟨y141, hy141⟩ : ∃ y_ : List Int, y_ = (x7_1.set ((ji9) : Int).toNat (rd x7_1 (ji8))) := ⟨_, rfl⟩
                    replace H : (if a1 = 0 then (none) else (spec_l08Step.l0 k1 l0 a1 (y141.set ((ji8) : Int).toNat (Int.tmod (wrap64 ((wrap64 ((wrap64 (2 * (rd x7_1 (ji8)))) - (rd x7_1 (ji9)))) + a1)) a1)) (wrap64 (x8_1 + 1)))) = some r := by first | (rw [hy141]; with_reducible exact H) | (have H2_ := (Option.bind_some _ _).symm.trans H; rw [hy141]; with_reducible exact H2_) | (have H2_ := (Option.bind_some _ _).symm.trans H; with_reducible exact H2_) | with_reducible exact H | (rw [hy141]; exact H) | exact H
                    have Ny141 := Aside0.mk hy141
                    clear hy141
                    by_cases c24 : a1 = 0
                    · rw [if_pos c24] at H
                      exact absurd H (by simp)
                    · rw [if_neg c24] at H
                      have c24b0 : (a1 == 0) = false := beq_eq_false_iff_ne.mpr c24
                      have c24b1 : (a1 != 0) = true := bne_iff_ne.mpr c24
                      obtain ⟨y142, hy142⟩ : ∃ y_ : List Int, y_ = (y141.set ((ji8) : Int).toNat (Int.tmod (wrap64 ((wrap64 ((wrap64 (2 * (rd x7_1 (ji8)))) - (rd x7_1 (ji9)))) + a1)) a1)) := ⟨_, rfl⟩
                      replace H : (spec_l08Step.l0 k1 l0 a1 y142 (wrap64 (x8_1 + 1))) = some r := by first | (rw [hy142]; with_reducible exact H) | (have H2_ := (Option.bind_some _ _).symm.trans H; rw [hy142]; with_reducible exact H2_) | (have H2_ := (Option.bind_some _ _).symm.trans H; with_reducible exact H2_) | with_reducible exact H | (rw [hy142]; exact H) | exact H
                      have Ny142 := Aside0.mk hy142
                      clear hy142
                      have H' := Aside0.mk H
                      clear H
                      have p134 : 0 ≤ (x8_1 : Int) := of_decide_eq_true (by first | (with_reducible assumption) | assumption)
                      have q134 : x8_1 < (l0.length : Int) := of_decide_eq_true (by first | (with_reducible assumption) | assumption)
                      obtain ⟨ad134, e134, hx134_0⟩ := Kd.at_int HR0.out x8_1 p134 q134
                      cases e134
                      replace hx134_0 := (HB.out.cell (World.block_lt_of_cell? w _ hx134_0)).trans hx134_0
                      replace p134 := eq_true p134
                      replace q134 := eq_true q134
                      have p135 : 0 ≤ (x8_1 : Int) := of_decide_eq_true (by first | (with_reducible assumption) | assumption)
                      have q135 : x8_1 < (l0.length : Int) := of_decide_eq_true (by first | (with_reducible assumption) | assumption)
                      obtain ⟨ad135, e135, hx135_0⟩ := Kd.at_int HR0.out x8_1 p135 q135
                      obtain rfl : ad134 = ad135 := (by injection e135)
                      replace hx135_0 := (HB.out.cell (World.block_lt_of_cell? w _ hx135_0)).trans hx135_0
                      replace p135 := eq_true p135
                      replace q135 := eq_true q135
                      obtain ⟨Ao26, co26, eo26⟩ := Kd.R_slice HO_7.out
                      subst eo26
                      have p136 : 0 ≤ ((ji9) : Int) := of_decide_eq_true (by first | (with_reducible assumption) | assumption)
                      have q136 : (ji9) < (x7_1.length : Int) := of_decide_eq_true (by first | (with_reducible assumption) | assumption)
                      obtain ⟨ad136, e136, hx136_0⟩ := Kd.at_int (Kd.R_reads' HO_7.out).2.2 (ji9) p136 q136
                      cases e136
                      replace p136 := eq_true p136
                      replace q136 := eq_true q136
                      have p137 : 0 ≤ ((ji8) : Int) := of_decide_eq_true (by first | (with_reducible assumption) | assumption)
                      have q137 : (ji8) < (x7_1.length : Int) := of_decide_eq_true (by first | (with_reducible assumption) | assumption)
                      obtain ⟨ad137, e137, hx137_0⟩ := Kd.at_int (Kd.R_reads' HO_7.out).2.2 (ji8) p137 q137
                      obtain rfl : ad136 = ad137 := (by injection e137)
                      replace p137 := eq_true p137
                      replace q137 := eq_true q137
                      have p138 : 0 ≤ (x8_1 : Int) := of_decide_eq_true (by first | (with_reducible assumption) | assumption)
                      have q138 : x8_1 < (l0.length : Int) := of_decide_eq_true (by first | (with_reducible assumption) | assumption)
                      obtain ⟨ad138, e138, hx138_0⟩ := Kd.at_int HR0.out x8_1 p138 q138
                      obtain rfl : ad134 = ad138 := (by injection e138)
                      replace hx138_0 := (HB.out.cell (World.block_lt_of_cell? w _ hx138_0)).trans hx138_0
                      replace p138 := eq_true p138
                      replace q138 := eq_true q138
                      have p23 : 0 ≤ ((ji9) : Int) := of_decide_eq_true (by first | (with_reducible assumption) | assumption)
                      have q23 : ((ji9) : Int) < ((x7_1.length : Int) : Int) := of_decide_eq_true (by first | (with_reducible assumption) | assumption)
                      obtain ⟨go23, co23, eo23, gb23, gl23, cl23, HG23⟩ := Kd.R_form HO_7.out (by omega)
                      (first | cases eo23 | (injection eo23 with ea_ en_ ec_; (first | subst ea_ | (injection ea_ with ea_; subst ea_)); subst ec_; clear en_))
                      have GB23 := Aside0.mk gb23
                      have GG23 := Aside0.mk HG23
                      clear gb23 gl23 HG23
                      (first | simp only [add_plain] at hx136_0 | skip)
                      (first | simp only [add_plain] at hx137_0 | skip)
                      obtain ⟨hx23_0, hf23_0⟩ := Kd.R_celln 0 HO_7.out ((ji9) : Int) p23 q23
                      replace p23 := eq_true p23
                      replace q23 := eq_true q23
                      obtain ⟨hy27_, hz27_⟩ := Kd.R_celln 0 HO_7.out ((ji9) : Int) (of_decide_eq_true (by first | (with_reducible assumption) | assumption)) (of_decide_eq_true (by first | (with_reducible assumption) | assumption))
                      have HP27 := Kd.R_putg HO_7.out ((ji9) : Int) (rd x7_1 (ji8))
                      go_wp2_with (first | ((with_reducible refine gate_store (t := 2) (p := 64) rfl ?_); (try (rw [drewN_self wr]; generalize hq_ : World.drewN wr _ = wr; have n0_ := Aside0.mk (Kd.R_at hq_ HO_7.out); have n1_ := Aside0.mk (below_at hq_ HB.out); clear hq_ HO_7 HB; have HO_7 := n0_; have HB := n1_; clear n0_ n1_; (try (obtain ⟨hy27_, hz27_⟩ := Kd.R_celln 0 HO_7.out ((ji9) : Int) (of_decide_eq_true (by first | (with_reducible assumption) | assumption)) (of_decide_eq_true (by first | (with_reducible assumption) | assumption)))); (try (have HP27 := Kd.R_putg HO_7.out ((ji9) : Int) (rd x7_1 (ji8)))))); refine store_event (t := 2) (p := 64) (v := ?vo_w28) (w1 := (wr.setCell ⟨go23, ((ji9) : Int).toNat, none⟩ (.int .i64 (rd x7_1 (ji8))))) ?hg ?ho ?hn ?hr ?_; (case ho => rfl); (case hg => rfl); (case hn => rfl); (case hr => first | (go_simp; done) | (go_simp; rfl)); intro w28 hw; have hg : wr.grownBy w28 (some go23) := (by rw [hw]; exact HP27.2); have hp_ : Kd.R (Kd.int .i64) 2 w28 w.heap.size (fun _ => True) (.slice (some ⟨go23, 0, none⟩) x7_1.length co26) y141 := (by rw [hw, Ny141.out]; exact HP27.1); clear HP27; have n0_ := Aside0.mk (hp_); have n1_ := Aside0.mk ((by rw [hw]; exact below_set (HB.out) GB23.out : Below w.heap.size w w28)); clear HO_7; clear HB; have HO_7 := n0_; have HB := n1_; clear n0_ n1_; clear hg hw hp_; have p25 : 0 ≤ ((ji8) : Int) := of_decide_eq_true (by first | (with_reducible assumption) | assumption); have q25 : ((ji8) : Int) < ((x7_1.length : Int) : Int) := of_decide_eq_true (by first | (with_reducible assumption) | assumption); obtain ⟨hx25_0, hf25_0⟩ := Kd.R_celln 0 HO_7.out ((ji8) : Int) p25 q25; replace p25 := eq_true p25; replace q25 := eq_true q25; obtain ⟨hy29_, hz29_⟩ := Kd.R_celln 0 HO_7.out ((ji8) : Int) (of_decide_eq_true (by first | (with_reducible assumption) | assumption)) (of_decide_eq_true (by first | (with_reducible assumption) | assumption)); have HP29 := Kd.R_putg HO_7.out ((ji8) : Int) (Int.tmod (wrap64 ((wrap64 ((wrap64 (2 * (rd x7_1 (ji8)))) - (rd x7_1 (ji9)))) + a1)) a1)) | ((with_reducible refine gate_store (t := 2) (p := 75) rfl ?_); (try (rw [drewN_self w28]; generalize hq_ : World.drewN w28 _ = w28; have n0_ := Aside0.mk (Kd.R_at hq_ HO_7.out); have n1_ := Aside0.mk (below_at hq_ HB.out); clear hq_ HO_7 HB; have HO_7 := n0_; have HB := n1_; clear n0_ n1_; (try (obtain ⟨hy29_, hz29_⟩ := Kd.R_celln 0 HO_7.out ((ji8) : Int) (of_decide_eq_true (by first | (with_reducible assumption) | assumption)) (of_decide_eq_true (by first | (with_reducible assumption) | assumption)))); (try (have HP29 := Kd.R_putg HO_7.out ((ji8) : Int) (Int.tmod (wrap64 ((wrap64 ((wrap64 (2 * (rd x7_1 (ji8)))) - (rd x7_1 (ji9)))) + a1)) a1))))); refine store_event (t := 2) (p := 75) (v := ?vo_w30) (w1 := (w28.setCell ⟨go23, ((ji8) : Int).toNat, none⟩ (.int .i64 (Int.tmod (wrap64 ((wrap64 ((wrap64 (2 * (rd x7_1 (ji8)))) - (rd x7_1 (ji9)))) + a1)) a1)))) ?hg ?ho ?hn ?hr ?_; (case ho => rfl); (case hg => rfl); (case hn => rfl); (case hr => first | (go_simp; done) | (go_simp; rfl)); intro w30 hw; have hg : w28.grownBy w30 (some go23) := (by rw [hw]; exact HP29.2); have hp_ : Kd.R (Kd.int .i64) 2 w30 w.heap.size (fun _ => True) (.slice (some ⟨go23, 0, none⟩) x7_1.length co26) y142 := (by rw [hw, Ny142.out]; exact HP29.1); clear HP29; have n0_ := Aside0.mk (hp_); have n1_ := Aside0.mk ((by rw [hw]; exact below_set (HB.out) GB23.out : Below w.heap.size w w30)); clear HO_7; clear HB; have HO_7 := n0_; have HB := n1_; clear n0_ n1_; clear hg hw hp_))
                      repeat (go_quiet (first | ((with_reducible refine gate_store (t := 2) (p := 64) rfl ?_); (try (rw [drewN_self wr]; generalize hq_ : World.drewN wr _ = wr; have n0_ := Aside0.mk (Kd.R_at hq_ HO_7.out); have n1_ := Aside0.mk (below_at hq_ HB.out); clear hq_ HO_7 HB; have HO_7 := n0_; have HB := n1_; clear n0_ n1_; (try (obtain ⟨hy27_, hz27_⟩ := Kd.R_celln 0 HO_7.out ((ji9) : Int) (of_decide_eq_true (by first | (with_reducible assumption) | assumption)) (of_decide_eq_true (by first | (with_reducible assumption) | assumption)))); (try (have HP27 := Kd.R_putg HO_7.out ((ji9) : Int) (rd x7_1 (ji8)))))); refine store_event (t := 2) (p := 64) (v := ?vo_w28) (w1 := (wr.setCell ⟨go23, ((ji9) : Int).toNat, none⟩ (.int .i64 (rd x7_1 (ji8))))) ?hg ?ho ?hn ?hr ?_; (case ho => rfl); (case hg => rfl); (case hn => rfl); (case hr => first | (go_simp; done) | (go_simp; rfl)); intro w28 hw; have hg : wr.grownBy w28 (some go23) := (by rw [hw]; exact HP27.2); have hp_ : Kd.R (Kd.int .i64) 2 w28 w.heap.size (fun _ => True) (.slice (some ⟨go23, 0, none⟩) x7_1.length co26) y141 := (by rw [hw, Ny141.out]; exact HP27.1); clear HP27; have n0_ := Aside0.mk (hp_); have n1_ := Aside0.mk ((by rw [hw]; exact below_set (HB.out) GB23.out : Below w.heap.size w w28)); clear HO_7; clear HB; have HO_7 := n0_; have HB := n1_; clear n0_ n1_; clear hg hw hp_; have p25 : 0 ≤ ((ji8) : Int) := of_decide_eq_true (by first | (with_reducible assumption) | assumption); have q25 : ((ji8) : Int) < ((x7_1.length : Int) : Int) := of_decide_eq_true (by first | (with_reducible assumption) | assumption); obtain ⟨hx25_0, hf25_0⟩ := Kd.R_celln 0 HO_7.out ((ji8) : Int) p25 q25; replace p25 := eq_true p25; replace q25 := eq_true q25; obtain ⟨hy29_, hz29_⟩ := Kd.R_celln 0 HO_7.out ((ji8) : Int) (of_decide_eq_true (by first | (with_reducible assumption) | assumption)) (of_decide_eq_true (by first | (with_reducible assumption) | assumption)); have HP29 := Kd.R_putg HO_7.out ((ji8) : Int) (Int.tmod (wrap64 ((wrap64 ((wrap64 (2 * (rd x7_1 (ji8)))) - (rd x7_1 (ji9)))) + a1)) a1)) | ((with_reducible refine gate_store (t := 2) (p := 75) rfl ?_); (try (rw [drewN_self w28]; generalize hq_ : World.drewN w28 _ = w28; have n0_ := Aside0.mk (Kd.R_at hq_ HO_7.out); have n1_ := Aside0.mk (below_at hq_ HB.out); clear hq_ HO_7 HB; have HO_7 := n0_; have HB := n1_; clear n0_ n1_; (try (obtain ⟨hy29_, hz29_⟩ := Kd.R_celln 0 HO_7.out ((ji8) : Int) (of_decide_eq_true (by first | (with_reducible assumption) | assumption)) (of_decide_eq_true (by first | (with_reducible assumption) | assumption)))); (try (have HP29 := Kd.R_putg HO_7.out ((ji8) : Int) (Int.tmod (wrap64 ((wrap64 ((wrap64 (2 * (rd x7_1 (ji8)))) - (rd x7_1 (ji9)))) + a1)) a1))))); refine store_event (t := 2) (p := 75) (v := ?vo_w30) (w1 := (w28.setCell ⟨go23, ((ji8) : Int).toNat, none⟩ (.int .i64 (Int.tmod (wrap64 ((wrap64 ((wrap64 (2 * (rd x7_1 (ji8)))) - (rd x7_1 (ji9)))) + a1)) a1)))) ?hg ?ho ?hn ?hr ?_; (case ho => rfl); (case hg => rfl); (case hn => rfl); (case hr => first | (go_simp; done) | (go_simp; rfl)); intro w30 hw; have hg : w28.grownBy w30 (some go23) := (by rw [hw]; exact HP29.2); have hp_ : Kd.R (Kd.int .i64) 2 w30 w.heap.size (fun _ => True) (.slice (some ⟨go23, 0, none⟩) x7_1.length co26) y142 := (by rw [hw, Ny142.out]; exact HP29.1); clear HP29; have n0_ := Aside0.mk (hp_); have n1_ := Aside0.mk ((by rw [hw]; exact below_set (HB.out) GB23.out : Below w.heap.size w w30)); clear HO_7; clear HB; have HO_7 := n0_; have HB := n1_; clear n0_ n1_; clear hg hw hp_)); try go_wp2_with (first | ((with_reducible refine gate_store (t := 2) (p := 64) rfl ?_); (try (rw [drewN_self wr]; generalize hq_ : World.drewN wr _ = wr; have n0_ := Aside0.mk (Kd.R_at hq_ HO_7.out); have n1_ := Aside0.mk (below_at hq_ HB.out); clear hq_ HO_7 HB; have HO_7 := n0_; have HB := n1_; clear n0_ n1_; (try (obtain ⟨hy27_, hz27_⟩ := Kd.R_celln 0 HO_7.out ((ji9) : Int) (of_decide_eq_true (by first | (with_reducible assumption) | assumption)) (of_decide_eq_true (by first | (with_reducible assumption) | assumption)))); (try (have HP27 := Kd.R_putg HO_7.out ((ji9) : Int) (rd x7_1 (ji8)))))); refine store_event (t := 2) (p := 64) (v := ?vo_w28) (w1 := (wr.setCell ⟨go23, ((ji9) : Int).toNat, none⟩ (.int .i64 (rd x7_1 (ji8))))) ?hg ?ho ?hn ?hr ?_; (case ho => rfl); (case hg => rfl); (case hn => rfl); (case hr => first | (go_simp; done) | (go_simp; rfl)); intro w28 hw; have hg : wr.grownBy w28 (some go23) := (by rw [hw]; exact HP27.2); have hp_ : Kd.R (Kd.int .i64) 2 w28 w.heap.size (fun _ => True) (.slice (some ⟨go23, 0, none⟩) x7_1.length co26) y141 := (by rw [hw, Ny141.out]; exact HP27.1); clear HP27; have n0_ := Aside0.mk (hp_); have n1_ := Aside0.mk ((by rw [hw]; exact below_set (HB.out) GB23.out : Below w.heap.size w w28)); clear HO_7; clear HB; have HO_7 := n0_; have HB := n1_; clear n0_ n1_; clear hg hw hp_; have p25 : 0 ≤ ((ji8) : Int) := of_decide_eq_true (by first | (with_reducible assumption) | assumption); have q25 : ((ji8) : Int) < ((x7_1.length : Int) : Int) := of_decide_eq_true (by first | (with_reducible assumption) | assumption); obtain ⟨hx25_0, hf25_0⟩ := Kd.R_celln 0 HO_7.out ((ji8) : Int) p25 q25; replace p25 := eq_true p25; replace q25 := eq_true q25; obtain ⟨hy29_, hz29_⟩ := Kd.R_celln 0 HO_7.out ((ji8) : Int) (of_decide_eq_true (by first | (with_reducible assumption) | assumption)) (of_decide_eq_true (by first | (with_reducible assumption) | assumption)); have HP29 := Kd.R_putg HO_7.out ((ji8) : Int) (Int.tmod (wrap64 ((wrap64 ((wrap64 (2 * (rd x7_1 (ji8)))) - (rd x7_1 (ji9)))) + a1)) a1)) | ((with_reducible refine gate_store (t := 2) (p := 75) rfl ?_); (try (rw [drewN_self w28]; generalize hq_ : World.drewN w28 _ = w28; have n0_ := Aside0.mk (Kd.R_at hq_ HO_7.out); have n1_ := Aside0.mk (below_at hq_ HB.out); clear hq_ HO_7 HB; have HO_7 := n0_; have HB := n1_; clear n0_ n1_; (try (obtain ⟨hy29_, hz29_⟩ := Kd.R_celln 0 HO_7.out ((ji8) : Int) (of_decide_eq_true (by first | (with_reducible assumption) | assumption)) (of_decide_eq_true (by first | (with_reducible assumption) | assumption)))); (try (have HP29 := Kd.R_putg HO_7.out ((ji8) : Int) (Int.tmod (wrap64 ((wrap64 ((wrap64 (2 * (rd x7_1 (ji8)))) - (rd x7_1 (ji9)))) + a1)) a1))))); refine store_event (t := 2) (p := 75) (v := ?vo_w30) (w1 := (w28.setCell ⟨go23, ((ji8) : Int).toNat, none⟩ (.int .i64 (Int.tmod (wrap64 ((wrap64 ((wrap64 (2 * (rd x7_1 (ji8)))) - (rd x7_1 (ji9)))) + a1)) a1)))) ?hg ?ho ?hn ?hr ?_; (case ho => rfl); (case hg => rfl); (case hn => rfl); (case hr => first | (go_simp; done) | (go_simp; rfl)); intro w30 hw; have hg : w28.grownBy w30 (some go23) := (by rw [hw]; exact HP29.2); have hp_ : Kd.R (Kd.int .i64) 2 w30 w.heap.size (fun _ => True) (.slice (some ⟨go23, 0, none⟩) x7_1.length co26) y142 := (by rw [hw, Ny142.out]; exact HP29.1); clear HP29; have n0_ := Aside0.mk (hp_); have n1_ := Aside0.mk ((by rw [hw]; exact below_set (HB.out) GB23.out : Below w.heap.size w w30)); clear HO_7; clear HB; have HO_7 := n0_; have HB := n1_; clear n0_ n1_; clear hg hw hp_)))
                      go_roundg k1
                      case measure => have := HK1.out; omega
                      case rel => exact ⟨(y142), (wrap64 (x8_1 + 1)), (by first | rfl | (simp; done) | (simp [*]; done)), H', ⟨by have := HK1.out; omega⟩, ⟨by (with_reducible repeat (first | apply Kd.R_alloc | apply Kd.R_drewN | apply Kd.R_drew)); exact HO_7.out⟩, ⟨by repeat (first | (with_reducible first | exact HB.out | apply below_alloc | apply pw_below_drewN | apply below_drew1) | exact HB.out)⟩⟩
                · rw [if_neg c13] at H
                  exact absurd H (by simp)
              · rw [if_neg c12] at H
                exact absurd H (by simp)
            · rw [if_neg c11] at H
              exact absurd H (by simp)
          · rw [if_neg c10] at H
            exact absurd H (by simp)
        · rw [if_neg c7] at H
          exact absurd H (by simp)
      · rw [if_neg c6] at H
        have c6b0 : decide (x8_1 < (l0.length : Int)) = false := decide_eq_false c6
        clear c6
        obtain rfl := Option.some.inj H
        go_wp2
        repeat (go_quiet (fail); try go_wp2)
        go_ret
        exact ⟨_, by first | rfl | (simp [errW_none, errW_some] <;> rfl) | (simp [*, errW_none, errW_some] <;> rfl), by (with_reducible repeat (first | apply Kd.R_alloc | apply Kd.R_drewN | apply Kd.R_drew)); exact HO_7.out, by repeat (first | (with_reducible first | exact HB.out | apply below_alloc | apply pw_below_drewN | apply below_drew1) | exact HB.out)⟩

/-! ### spec_l08Rank: function 56 -/
theorem infoRows : (Try.prog.info? 22).map (fun i => (i.zero, i.size, i.bytes)) = some (some (.slice none 0 0), 1, 24) := by kernel_rfl
def spec_l08Rank.f (k : Nat) (l0 : List (List Int)) (a1 : Int) : Option Int := if iv.Sq l0.length l0 ∧ (1 ≤ l0.length ∧ l0.length ≤ 8) ∧ (3 ≤ a1 ∧ a1 ≤ 97) then rk.goS a1 (fun x => rk.sr a1 k x 1) l0.length l0.length 0 0 l0 else none
theorem spec_l08Rank.mono : ∀ a0 a1 k, LeO (spec_l08Rank.f k a0 a1) (spec_l08Rank.f (k + 1) a0 a1) := by
  intro a0 a1 k
  unfold spec_l08Rank.f
  exact LeO.ite (rk.goS_mono _ _ _ _ (fun x => rk.sr_mono _ _ _ _) _ _ _ _) (LeO.refl _)
def spec_l08Rank.T22 : Bool × List (List Nat × List Nat) := (true, [([], []), ([], []), ([], []), ([1, 2], [1, 2]), ([3], [3]), ([], []), ([4, 5], [4, 5]), ([6], [6]), ([], []), ([], []), ([], []), ([9, 10], [9, 10]), ([11], [11]), ([8, 12], [8, 12]), ([7, 13], [7, 13]), ([], []), ([14, 15], [14, 15]), ([], []), ([16, 17], [16, 17]), ([], []), ([18, 19], [18, 19]), ([20], [20]), ([0, 21], [0, 21]), ([22, 22, 0, 1, 2, 3, 4, 5, 6, 7, 8, 9, 10, 11, 12, 13, 14, 15, 16, 17, 18, 19, 20, 21, 22], [0, 22])])
def spec_l08Rank.B22 : List Nat := [0, 0, 0, 6, 14, 0, 62, 126, 0, 0, 0, 1536, 3584, 7936, 16382, 0, 65534, 0, 262142, 0, 1048574, 2097150, 4194303, 8388607]
theorem spec_l08Rank.tab22 : rtab .any (opsOf Try.f56 22) = spec_l08Rank.T22 := by kernel_rfl
theorem spec_l08Rank.bits22 : waitsOk spec_l08Rank.T22.2 spec_l08Rank.B22 = true := by kernel_rfl
set_option maxHeartbeats 8000000 in
set_option maxRecDepth 100000 in
theorem spec_l08Rank.calls (k : Nat) (gL cL : Nat) (l0 : List (List Int)) (a1 r : Int) (w0 w : World) (hs : Mx 2 22 w w0.heap.size (fun _ => True) (.slice (some ⟨gL, 0, none⟩) l0.length cL) l0) (hB : Below w0.heap.size w0 w) (h : spec_l08Rank.f k l0 a1 = some r) :
    Calls Try.prog 56 #[(.slice (some ⟨gL, 0, none⟩) l0.length cL), .int .i64 a1] w fun e w' => e = .returned (.int .i64 r) ∧ Below w0.heap.size w0 w' := by
  have SL := Aside0.mk hs
  have HB := Aside0.mk hB
  clear hs hB
  have H0 := h
  clear h
  unfold spec_l08Rank.f at H0
  by_cases hg : iv.Sq l0.length l0 ∧ (1 ≤ l0.length ∧ l0.length ≤ 8) ∧ (3 ≤ a1 ∧ a1 ≤ 97)
  case neg => rw [if_neg hg] at H0; cases H0
  rw [if_pos hg] at H0
  have HSL := Aside0.mk hg.1
  have HM := Aside0.mk hg.2.1
  have HP := Aside0.mk hg.2.2
  have H' := Aside0.mk H0
  clear H0 hg
  have HGL := Aside0.mk (Kd.R_base (Kd.S_R SL.out) gL rfl)
  have hp0 : (a1 = 0) = False := eq_false (by have := HP.out; omega)
  have hp1 : (a1 == 0) = false := beq_eq_false_iff_ne.mpr (by have := HP.out; omega)
  go_enter Try.func56, Try.ntmps56
  go_wp2
  go_loopg [5, 6] 30 (fun kq v5 v6 wk => ∃ (L : List (List Int)) (rank c : Int) (n : Nat), v5 = .int .i64 rank ∧ v6 = .int .i64 c ∧ Aside0 (n < kq) ∧ Aside0 ((n : Int) + c = (l0.length : Int)) ∧ Aside0 (0 ≤ rank ∧ rank ≤ c) ∧ Aside0 (rk.goS a1 (fun x => rk.sr a1 k x 1) l0.length n c rank L = some r) ∧ Aside0 (iv.Sq l0.length L) ∧ Aside0 (Mx 2 22 wk w0.heap.size (fun _ => True) (.slice (some ⟨gL, 0, none⟩) l0.length cL) L) ∧ Aside0 (Below w0.heap.size w0 wk))
  case atStart => exact ⟨l0, 0, 0, l0.length, (by first | rfl | (simp; done) | (simp [*]; done)), (by first | rfl | (simp; done) | (simp [*]; done)), ⟨by have := HM.out; omega⟩, ⟨by omega⟩, ⟨by omega⟩, H', HSL, ⟨(by (with_reducible repeat (first | apply Kd.S_alloc | apply Kd.S_drewN | apply Kd.S_drew)); exact SL.out)⟩, ⟨(by repeat (first | (with_reducible first | exact HB.out | apply below_alloc | apply pw_below_drewN | apply below_drew1) | exact HB.out))⟩⟩
  case round =>
    clear SL HB H' HSL
    obtain ⟨L, rank, c, n, rfl, rfl, HQ, HC, HRK, HA, HSL, SL, HB⟩ := hrel
    cases gk with
    | zero => exact absurd HQ.out (Nat.not_lt_zero _)
    | succ k1 =>
    have hm0 : 0 < (l0.length : Int) := by have := HM.out; omega
    have cmb : decide ((l0.length : Int) > 0) = true := decide_eq_true hm0
    have cmb2 : decide (0 < (l0.length : Int)) = true := decide_eq_true hm0
    have ppm : (0 < (l0.length : Int)) = True := eq_true hm0
    have cmb3 : decide (0 < l0.length) = true := decide_eq_true (by have := HM.out; omega)
    have ppn : (0 < l0.length) = True := eq_true (by have := HM.out; omega)
    have HM0 := Aside0.mk hm0
    clear hm0
    obtain ⟨grZ, crZ, hzZ, _⟩ := mx_atm (m := l0.length) SL.out 0 (by omega) HM0.out (HSL.out.at _ (by omega) HM0.out) (by have := HM.out; omega)
    have hz0 : wr.cell? ⟨gL, 0, none⟩ = some (.slice (some ⟨grZ, 0, none⟩) l0.length crZ) := hzZ
    cases n with
    | zero =>
      have H := HA.out
      clear HA
      simp only [rk.goS, Option.some.injEq] at H
      subst H
      have c1b : decide (c < (l0.length : Int)) = false := decide_eq_false (by have := HC.out; omega)
      go_wp2
      go_ret
      exact ⟨rfl, (by repeat (first | (with_reducible first | exact HB.out | apply below_alloc | apply pw_below_drewN | apply below_drew1) | exact HB.out))⟩
    | succ n =>
      have hc0 : 0 ≤ c := by have := HRK.out; omega
      have hc1 : c < (l0.length : Int) := by have := HC.out; omega
      have c1b : decide (c < (l0.length : Int)) = true := decide_eq_true hc1
      have ppc : (0 ≤ c) = True := eq_true (hc0)
      have qqc : (c < (l0.length : Int)) = True := eq_true (hc1)
      have HC0 := Aside0.mk hc0
      have HC1 := Aside0.mk hc1
      clear hc0 hc1
      have HA := HA.out
      unfold rk.goS at HA
      obtain ⟨pv, hpv⟩ : ∃ pv, iv.piv c (l0.length - rank.toNat) rank L = pv := ⟨_, rfl⟩
      have hrg := iv.piv_range c L (l0.length - rank.toNat) rank
      rw [hpv] at hrg
      have HPV := Aside0.mk (show rank ≤ pv ∧ pv ≤ (l0.length : Int) by have := HRK.out; have := HC1.out; omega)
      rw [hpv] at HA
      have HPE := Aside0.mk hpv
      have H' := Aside0.mk HA
      clear HA hrg hpv
      go_upto_block 2 with (fail)
      go_cut [7] (fun vp wc => vp = .int .i64 pv ∧ Aside0 (Mx 2 22 wc w0.heap.size (fun _ => True) (.slice (some ⟨gL, 0, none⟩) l0.length cL) L) ∧ Aside0 (Below w0.heap.size w0 wc))
      case first =>
        go_wp2
        go_loopg [7] 30 (fun kq vp wr => ∃ (t : Int) (q : Nat), vp = .int .i64 t ∧ Aside0 (q < kq) ∧ Aside0 ((q : Int) + t = (l0.length : Int) ∧ rank ≤ t) ∧ Aside0 (iv.piv c q t L = pv) ∧ Aside0 (Mx 2 22 wr w0.heap.size (fun _ => True) (.slice (some ⟨gL, 0, none⟩) l0.length cL) L) ∧ Aside0 (Below w0.heap.size w0 wr))
        case atStart => exact ⟨rank, l0.length - rank.toNat, (by first | rfl | (simp; done) | (simp [*]; done)), ⟨by have := HM.out; omega⟩, ⟨by have := HRK.out; have := HC1.out; omega⟩, HPE, ⟨(by (with_reducible repeat (first | apply Kd.S_alloc | apply Kd.S_drewN | apply Kd.S_drew)); exact SL.out)⟩, ⟨(by repeat (first | (with_reducible first | exact HB.out | apply below_alloc | apply pw_below_drewN | apply below_drew1) | exact HB.out))⟩⟩
        case round =>
          clear SL HB
          (try clear hzZ hz0)
          obtain ⟨t, q, rfl, HQ2, HT, HA, SL, HB⟩ := hrel
          cases gk with
          | zero => exact absurd HQ2.out (Nat.not_lt_zero _)
          | succ k2 =>
          cases q with
          | zero =>
            have c2b : decide (t < (l0.length : Int)) = false := decide_eq_false (by have := HT.out; omega)
            have HA := HA.out
            simp only [iv.piv] at HA
            subst HA
            go_wp2
            go_meet
            case rel => exact ⟨(by first | rfl | (simp; done) | (simp [*]; done)), ⟨(by (with_reducible repeat (first | apply Kd.S_alloc | apply Kd.S_drewN | apply Kd.S_drew)); exact SL.out)⟩, ⟨(by repeat (first | (with_reducible first | exact HB.out | apply below_alloc | apply pw_below_drewN | apply below_drew1) | exact HB.out))⟩⟩
          | succ q =>
            have ht0 : 0 ≤ t := by have := HT.out; have := HRK.out; omega
            have ht1 : t < (l0.length : Int) := by have := HT.out; omega
            have c2b : decide (t < (l0.length : Int)) = true := decide_eq_true ht1
            have ppt : (0 ≤ t) = True := eq_true (ht0)
            have qqt : (t < (l0.length : Int)) = True := eq_true (ht1)
            obtain ⟨grA, crA, hzA, hfA_, hbA_, hkA_, hnA_, hcA_, _⟩ := mx_atm (m := l0.length) SL.out t ht0 ht1 (HSL.out.at _ ht0 ht1) (by have := HM.out; omega)
            obtain ⟨hvA0, hfA0⟩ := hcA_ c HC0.out HC1.out
            clear hfA_ hbA_ hkA_ hnA_ hcA_
            have HA := HA.out
            unfold iv.piv at HA
            have HT0 := Aside0.mk ht0
            have HT1 := Aside0.mk ht1
            clear ht0 ht1
            by_cases e3 : iv.gt L t c = 0
            · have HA := Aside0.mk ((if_pos e3).symm.trans HA)
              have c3b0 : (iv.gt L t c == 0) = true := beq_iff_eq.mpr e3
              have c3b1 : (iv.gt L t c != 0) = false := bne_eq_false_iff_eq.mpr e3
              clear e3
              go_wp2
              go_roundg k2
              case measure => omega
              case rel =>
                have HW := Aside0.mk (show wrap64 (t + 1) = t + 1 by have := HT0.out; have := HT1.out; have := HM.out; unfold wrap64; omega)
                exact ⟨wrap64 (t + 1), q, (by first | rfl | (simp; done) | (simp [*]; done)), ⟨by have := HQ2.out; omega⟩, ⟨by have := HT.out; rw [HW.out]; omega⟩, ⟨by rw [HW.out]; exact HA.out⟩, ⟨(by (with_reducible repeat (first | apply Kd.S_alloc | apply Kd.S_drewN | apply Kd.S_drew)); exact SL.out)⟩, ⟨(by repeat (first | (with_reducible first | exact HB.out | apply below_alloc | apply pw_below_drewN | apply below_drew1) | exact HB.out))⟩⟩
            · have HA := (if_neg e3).symm.trans HA
              have c3b0 : (iv.gt L t c == 0) = false := beq_eq_false_iff_ne.mpr e3
              have c3b1 : (iv.gt L t c != 0) = true := bne_iff_ne.mpr e3
              clear e3
              subst HA
              go_wp2
              go_meet
              case rel => exact ⟨(by first | rfl | (simp; done) | (simp [*]; done)), ⟨(by (with_reducible repeat (first | apply Kd.S_alloc | apply Kd.S_drewN | apply Kd.S_drew)); exact SL.out)⟩, ⟨(by repeat (first | (with_reducible first | exact HB.out | apply below_alloc | apply pw_below_drewN | apply below_drew1) | exact HB.out))⟩⟩
      case rest =>
        clear SL HB hzZ hz0
        obtain ⟨rfl, SL, HB⟩ := hcut
        have H := H'.out
        clear H'
        have HWC := Aside0.mk (show wrap64 (c + 1) = c + 1 by have := HC0.out; have := HC1.out; have := HM.out; unfold wrap64; omega)
        by_cases e1 : pv = (l0.length : Int)
        · rw [if_pos e1] at H
          have c4b0 : (pv == (l0.length : Int)) = true := beq_iff_eq.mpr e1
          have c4b1 : (pv != (l0.length : Int)) = false := bne_eq_false_iff_eq.mpr e1
          clear e1
          go_wp2
          go_roundg k1
          case measure => omega
          case rel =>
            exact ⟨L, rank, wrap64 (c + 1), n, (by first | rfl | (simp; done) | (simp [*]; done)), (by first | rfl | (simp; done) | (simp [*]; done)), ⟨by have := HQ.out; omega⟩, ⟨by have := HC.out; rw [HWC.out]; omega⟩, ⟨by have := HRK.out; rw [HWC.out]; omega⟩, ⟨by rw [HWC.out]; exact H⟩, HSL, ⟨(by (with_reducible repeat (first | apply Kd.S_alloc | apply Kd.S_drewN | apply Kd.S_drew)); exact SL.out)⟩, ⟨(by repeat (first | (with_reducible first | exact HB.out | apply below_alloc | apply pw_below_drewN | apply below_drew1) | exact HB.out))⟩⟩
        · rw [if_neg e1] at H
          have c4b0 : (pv == (l0.length : Int)) = false := beq_eq_false_iff_ne.mpr e1
          have c4b1 : (pv != (l0.length : Int)) = true := bne_iff_ne.mpr e1
          have HP1 := Aside0.mk (show pv < (l0.length : Int) by have := HPV.out; omega)
          clear e1
          have ppv : (0 ≤ pv) = True := eq_true ((by have := HRK.out; have := HPV.out; omega))
          have qqv : (pv < (l0.length : Int)) = True := eq_true (HP1.out)
          have HRM := Aside0.mk (show rank < (l0.length : Int) by have := HRK.out; have := HC1.out; omega)
          have ppk : (0 ≤ rank) = True := eq_true (HRK.out.1)
          have qqk : (rank < (l0.length : Int)) = True := eq_true (HRM.out)
          unfold rk.goS2 at H
          obtain ⟨L1, hL1⟩ : ∃ x, iv.swp L pv rank = x := ⟨_, rfl⟩
          rw [hL1] at H
          obtain ⟨iv_, A2_, H1⟩ := Option.bind_eq_some_iff.mp H
          clear H
          have A2 := Aside0.mk A2_
          clear A2_
          obtain ⟨OW, hOW⟩ : ∃ x, L1.getD rank.toNat [] = x := ⟨_, rfl⟩
          rw [hOW] at H1
          obtain ⟨Z, hZ⟩ : ∃ x, rk.rowsS a1 iv_ c OW (l0.length - (rank.toNat + 1)) (rank + 1) L1 = x := ⟨_, rfl⟩
          rw [hZ] at H1
          have H' := Aside0.mk H1
          have HZ := Aside0.mk hZ
          have HLC := Aside0.mk hOW
          clear H1 hZ hOW
          have n_ : Aside0 (iv.Sq l0.length L1) := ⟨by rw [← hL1]; exact HSL.out.swp _ _ (by have := HRK.out; have := HPV.out; omega) HP1.out HRK.out.1 HRM.out⟩
          obtain ⟨vi, vj, hza, hzc, hfa, hfc, _, hz2, hf2, hsw, hfin⟩ := mx_swap2 SL.out pv.toNat rank.toNat (by have := HRK.out; have := HPV.out; have := HP1.out; omega) (by have := HRK.out; have := HRM.out; omega)
          have HSW := Aside0.mk hsw
          have HFI := Aside0.mk hfin
          clear hsw hfin
          obtain ⟨grvi, crvi, hx_, _⟩ := mx_atm (m := l0.length) SL.out pv (by have := HRK.out; have := HPV.out; omega) HP1.out (HSL.out.at _ (by have := HRK.out; have := HPV.out; omega) HP1.out) (by have := HM.out; omega)
          have e_ := Option.some.inj (hza.symm.trans hx_)
          subst e_
          clear hx_
          obtain ⟨grvj, crvj, hx_, _⟩ := mx_atm (m := l0.length) SL.out rank HRK.out.1 HRM.out (HSL.out.at _ HRK.out.1 HRM.out) (by have := HM.out; omega)
          have e_ := Option.some.inj (hzc.symm.trans hx_)
          subst e_
          clear hx_
          clear HSL
          have HSL := n_
          clear n_
          go_wp2
          have n0_ : Aside0 (Mx 2 22 ((World.setCell wc ⟨gL, pv.toNat, none⟩ (.slice (some ⟨grvj, 0, none⟩) l0.length crvj : Value)).setCell ⟨gL, rank.toNat, none⟩ (.slice (some ⟨grvi, 0, none⟩) l0.length crvi : Value)) w0.heap.size (fun _ => True) (.slice (some ⟨gL, 0, none⟩) l0.length cL) L1) := ⟨by rw [← hL1]; exact HSW.out⟩
          have n1_ : Aside0 (World.cell? ((World.setCell wc ⟨gL, pv.toNat, none⟩ (.slice (some ⟨grvj, 0, none⟩) l0.length crvj : Value)).setCell ⟨gL, rank.toNat, none⟩ (.slice (some ⟨grvi, 0, none⟩) l0.length crvi : Value)) ⟨gL, rank.toNat, none⟩ = some (.slice (some ⟨grvi, 0, none⟩) l0.length crvi : Value)) := ⟨HFI.out⟩
          have n2_ : Aside0 (Below w0.heap.size w0 ((World.setCell wc ⟨gL, pv.toNat, none⟩ (.slice (some ⟨grvj, 0, none⟩) l0.length crvj : Value)).setCell ⟨gL, rank.toNat, none⟩ (.slice (some ⟨grvi, 0, none⟩) l0.length crvi : Value))) := ⟨below_set (below_set HB.out HGL.out) HGL.out⟩
          clear SL HB HSW HFI hza hzc hfa hfc hz2 hf2 hL1
          generalize ((World.setCell wc ⟨gL, pv.toNat, none⟩ (.slice (some ⟨grvj, 0, none⟩) l0.length crvj : Value)).setCell ⟨gL, rank.toNat, none⟩ (.slice (some ⟨grvi, 0, none⟩) l0.length crvi : Value)) = w7 at n0_ n1_ n2_ ⊢
          have SL := n0_
          have HO := n1_
          have HB := n2_
          clear n0_ n1_ n2_
          go_loopg [9] (k + 1) (fun kq v9 wr => ∃ (v : Int) (q : Nat), v9 = .int .i64 v ∧ Aside0 (q < kq) ∧ Aside0 (rk.sr a1 q (iv.gt L1 rank c) v = some iv_) ∧ Aside0 (World.cell? wr ⟨gL, rank.toNat, none⟩ = some (.slice (some ⟨grvi, 0, none⟩) l0.length crvi : Value)) ∧ Aside0 (Mx 2 22 wr w0.heap.size (fun _ => True) (.slice (some ⟨gL, 0, none⟩) l0.length cL) L1) ∧ Aside0 (Below w0.heap.size w0 wr))
          case atStart => exact ⟨1, k, (by first | rfl | (simp; done) | (simp [*]; done)), ⟨by omega⟩, A2, ⟨HO.out⟩, ⟨(by (with_reducible repeat (first | apply Kd.S_alloc | apply Kd.S_drewN | apply Kd.S_drew)); exact SL.out)⟩, ⟨(by repeat (first | (with_reducible first | exact HB.out | apply below_alloc | apply pw_below_drewN | apply below_drew1) | exact HB.out))⟩⟩
          case round =>
            clear SL HB HO A2
            obtain ⟨v, q, rfl, HQ2, HA, HO, SL, HB⟩ := hrel
            cases gk with
            | zero => exact absurd HQ2.out (Nat.not_lt_zero _)
            | succ k2 =>
            cases q with
            | zero => exact absurd HA.out (by simp [rk.sr])
            | succ q =>
              obtain ⟨grA, crA, hzA, hfA_, hbA_, hkA_, hnA_, hcA_, _⟩ := mx_atm (m := l0.length) SL.out rank HRK.out.1 HRM.out (HSL.out.at _ HRK.out.1 HRM.out) (by have := HM.out; omega)
              obtain ⟨hvA0, hfA0⟩ := hcA_ c HC0.out HC1.out
              clear hfA_ hbA_ hkA_ hnA_ hcA_
              have e_ := Option.some.inj (hzA.symm.trans HO.out)
              cases e_
              have HA := HA.out
              unfold rk.sr at HA
              by_cases e3 : Int.tmod (wrap64 (v * iv.gt L1 rank c)) a1 = 1
              case neg =>
                have HA := Aside0.mk ((if_neg e3).symm.trans HA)
                have c3b0 : (Int.tmod (wrap64 (v * iv.gt L1 rank c)) a1 == 1) = false := beq_eq_false_iff_ne.mpr e3
                have c3b1 : (Int.tmod (wrap64 (v * iv.gt L1 rank c)) a1 != 1) = true := bne_iff_ne.mpr e3
                clear e3
                go_wp2
                go_roundg k2
                case measure => omega
                case rel => exact ⟨wrap64 (v + 1), q, (by first | rfl | (simp; done) | (simp [*]; done)), ⟨by have := HQ2.out; omega⟩, HA, ⟨HO.out⟩, ⟨(by (with_reducible repeat (first | apply Kd.S_alloc | apply Kd.S_drewN | apply Kd.S_drew)); exact SL.out)⟩, ⟨(by repeat (first | (with_reducible first | exact HB.out | apply below_alloc | apply pw_below_drewN | apply below_drew1) | exact HB.out))⟩⟩
              have HA := Option.some.inj ((if_pos e3).symm.trans HA)
              subst HA
              have c3b0 : (Int.tmod (wrap64 (v * iv.gt L1 rank c)) a1 == 1) = true := beq_iff_eq.mpr e3
              have c3b1 : (Int.tmod (wrap64 (v * iv.gt L1 rank c)) a1 != 1) = false := bne_eq_false_iff_eq.mpr e3
              clear e3
              have HWR := Aside0.mk (show wrap64 (rank + 1) = rank + 1 by have := HRK.out; have := HC1.out; have := HM.out; unfold wrap64; omega)
              go_wp2
              clear hzA hvA0 hfA0 c3b0 c3b1 HQ2
              go_loopg [10] 30 (fun kq v10 wq => ∃ (Lb : List (List Int)) (x : Int) (q : Nat), v10 = .int .i64 x ∧ Aside0 (q < kq) ∧ Aside0 ((q : Int) + x = (l0.length : Int) ∧ rank + 1 ≤ x) ∧ Aside0 (rk.rowsS a1 v c OW q x Lb = Z) ∧ Aside0 (iv.Sq l0.length Lb) ∧ Aside0 (Lb.getD rank.toNat [] = OW) ∧ Aside0 (World.cell? wq ⟨gL, rank.toNat, none⟩ = some (.slice (some ⟨grvi, 0, none⟩) l0.length crvi : Value)) ∧ Aside0 (Mx 2 22 wq w0.heap.size (fun _ => True) (.slice (some ⟨gL, 0, none⟩) l0.length cL) Lb) ∧ Aside0 (Below w0.heap.size w0 wq))
              case atStart => exact ⟨L1, wrap64 (rank + 1), l0.length - (rank.toNat + 1), rfl, ⟨by have := HM.out; omega⟩, ⟨by have := HRK.out; have := HRM.out; rw [HWR.out]; omega⟩, ⟨by rw [HWR.out]; exact HZ.out⟩, HSL, HLC, ⟨HO.out⟩, ⟨(by (with_reducible repeat (first | apply Kd.S_alloc | apply Kd.S_drewN | apply Kd.S_drew)); exact SL.out)⟩, ⟨(by repeat (first | (with_reducible first | exact HB.out | apply below_alloc | apply pw_below_drewN | apply below_drew1) | exact HB.out))⟩⟩
              case round =>
                clear SL HB HSL HLC HO HZ
                obtain ⟨Lb, x, q, rfl, HQ3, HX, HA, HSL, HLC, HO, SL, HB⟩ := hrel
                obtain ⟨wq, rfl⟩ : ∃ x, x = wr := ⟨_, rfl⟩
                cases gk with
                | zero => exact absurd HQ3.out (Nat.not_lt_zero _)
                | succ k3 =>
                cases q with
                | zero =>
                  have cxb : decide (x < (l0.length : Int)) = false := decide_eq_false (by have := HX.out; omega)
                  have e_ := HA.out
                  simp only [rk.rowsS] at e_
                  subst e_
                  clear HA
                  go_wp2
                  go_roundg k1
                  case measure => omega
                  case rel =>
                    exact ⟨Lb, wrap64 (rank + 1), wrap64 (c + 1), n, (by first | rfl | (simp; done) | (simp [*]; done)), (by first | rfl | (simp; done) | (simp [*]; done)), ⟨by have := HQ.out; omega⟩, ⟨by have := HC.out; rw [HWC.out]; omega⟩, ⟨by have := HRK.out; rw [HWC.out, HWR.out]; omega⟩, ⟨by rw [HWC.out, HWR.out]; exact H'.out⟩, HSL, ⟨(by (with_reducible repeat (first | apply Kd.S_alloc | apply Kd.S_drewN | apply Kd.S_drew)); exact SL.out)⟩, ⟨(by repeat (first | (with_reducible first | exact HB.out | apply below_alloc | apply pw_below_drewN | apply below_drew1) | exact HB.out))⟩⟩
                | succ q =>
                  have hx0 : 0 ≤ x := by have := HX.out; have := HRK.out; omega
                  have hx1 : x < (l0.length : Int) := by have := HX.out; omega
                  have cxb : decide (x < (l0.length : Int)) = true := decide_eq_true hx1
                  have ppx : (0 ≤ x) = True := eq_true (hx0)
                  have qqx : (x < (l0.length : Int)) = True := eq_true (hx1)
                  obtain ⟨grA, crA, hzA, hfA_, hbA_, hkA_, hnA_, hcA_, _⟩ := mx_atm (m := l0.length) SL.out x hx0 hx1 (HSL.out.at _ hx0 hx1) (by have := HM.out; omega)
                  obtain ⟨hvA0, hfA0⟩ := hcA_ c HC0.out HC1.out
                  clear hfA_ hbA_ hkA_ hnA_ hcA_
                  have HX0 := Aside0.mk hx0
                  have HX1 := Aside0.mk hx1
                  clear hx0 hx1
                  have HA := HA.out
                  unfold rk.rowsS at HA
                  have HW := Aside0.mk (show wrap64 (x + 1) = x + 1 by have := HX0.out; have := HX1.out; have := HM.out; unfold wrap64; omega)
                  have HXC := Aside0.mk (show x.toNat ≠ rank.toNat by have := HX.out; have := HRK.out; omega)
                  obtain ⟨NX, hNX⟩ : ∃ z, rk.elS a1 (Int.tmod (wrap64 (iv.gt Lb x c * v)) a1) (Lb.getD x.toNat []) OW = z := ⟨_, rfl⟩
                  rw [hNX] at HA
                  have HOL : OW.length = l0.length := by rw [← HLC.out]; exact HSL.out.at rank HRK.out.1 HRM.out
                  have HNL : Aside0 (NX.length = l0.length) := ⟨by have e_ := HSL.out.at x HX0.out HX1.out; rw [← hNX, rk.elS_len _ _ _ _ (by rw [e_, HOL])]; exact e_⟩
                  have HNX := Aside0.mk hNX
                  have HA := Aside0.mk HA
                  clear hNX HOL
                  have HB2 := Aside0.mk (Below.refl wq.heap.size wq)
                  go_wp2_with (first | ((with_reducible refine gate_dst (N := 93) rfl ?_); refine Kd.R_lit (Kd.int .i64) _ 2 ?hg (N := 93) ?hd (xs := ([] : List Int)) (inner := []) (ok := fun _ => True) (okp := fun _ => True) ?hr ?hp (fun _ hk => hk) trivial (Below.refl _ _) (Nat.le_refl _) (by simp) ?_; (case hd => rfl); (case hg => rfl); (case hr => first | (go_simp; done) | (go_simp; rfl)); (case hp => exact (Reps.none _ _)); intro v93 w12 ho hb hg_ hnew_; clear hg_ hnew_; have RN := Aside0.mk (Kd.R_lower ho (below_size (by repeat (first | (with_reducible first | exact HB2.out | apply below_alloc | apply pw_below_drewN | apply below_drew1) | exact HB2.out)))); have n_ := Aside0.mk (below_step (by repeat (first | (with_reducible first | exact HB2.out | apply below_alloc | apply pw_below_drewN | apply below_drew1) | exact HB2.out)) hb); clear HB2; have HB2 := n_; clear n_; clear hb ho))
                  go_loopg [12, 13] 30 (fun kq v12 v13 wr => ∃ (y : Int) (s : Nat), v13 = .int .i64 y ∧ Aside0 (s < kq) ∧ Aside0 ((s : Int) + y = (l0.length : Int) ∧ 0 ≤ y) ∧ Aside0 (Kd.R (Kd.int .i64) 2 wr wq.heap.size (fun _ => True) v12 (NX.take y.toNat)) ∧ Aside0 (Below wq.heap.size wq wr))
                  case atStart => exact ⟨0, l0.length, (by first | rfl | (simp; done) | (simp [*]; done)), ⟨by have := HM.out; omega⟩, ⟨by omega⟩, ⟨(by (with_reducible repeat (first | apply Kd.R_alloc | apply Kd.R_drewN | apply Kd.R_drew)); exact RN.out)⟩, ⟨(by repeat (first | (with_reducible first | exact HB2.out | apply below_alloc | apply pw_below_drewN | apply below_drew1) | exact HB2.out))⟩⟩
                  case round =>
                    clear RN HB2 hzA hvA0 hfA0
                    obtain ⟨y, s, rfl, HQ4, HY, RN, HB2⟩ := hrel
                    cases gk with
                    | zero => exact absurd HQ4.out (Nat.not_lt_zero _)
                    | succ k4 =>
                    cases s with
                    | zero =>
                      have cyb : decide (y < (l0.length : Int)) = false := decide_eq_false (by have := HY.out; omega)
                      obtain rfl : y = (l0.length : Int) := by have := HY.out; omega
                      have n_ : Aside0 (Kd.R (Kd.int .i64) 2 wr wq.heap.size (fun _ => True) u12 NX) := ⟨by have h_ := RN.out; rw [Int.toNat_natCast, List.take_of_length_le (by rw [HNL.out]; exact Nat.le_refl _)] at h_; exact h_⟩
                      clear RN
                      have RN := n_
                      clear n_
                      obtain ⟨gN, cN, e_, _, _, _⟩ := Kd.R_form RN.out (by rw [HNL.out]; have := HM.out; omega)
                      rw [HNL.out] at e_
                      subst e_
                      have n_ := Aside0.mk (Kd.S_below (Kd.S_mono (ok' := fun k_ => True ∧ ¬ (wq.heap.size ≤ k_)) (Kd.S_bound SL.out) (fun k_ hk_ => ⟨trivial, Nat.not_le.2 hk_.2.2.1⟩)) HB2.out)
                      clear SL
                      have SL := n_
                      clear n_
                      have HPU := mx_put (okg := fun k_ => wq.heap.size ≤ k_) (ok := fun _ => True) SL.out x HX0.out HX1.out (Kd.R_lower (Kd.R_mono (ok' := fun k_ => wq.heap.size ≤ k_) (Kd.R_bound RN.out) (fun k_ hk_ => hk_.2.1)) (below_size HB.out)) (fun _ _ => trivial) (mx_ok SL.out).2
                      obtain ⟨gr_, cr_, hzp, hfp, _, _, _, _, _⟩ := mx_atm (m := l0.length) SL.out x HX0.out HX1.out (HSL.out.at _ HX0.out HX1.out) (by have := HM.out; omega)
                      obtain ⟨cells_, hbk⟩ := mx_block SL.out (by have := HM.out; omega)
                      have HBK := Aside0.mk hbk
                      have HPU := Aside0.mk HPU
                      clear hbk
                      go_wp2
                      have n0_ : Aside0 (Mx 2 22 (World.setCell wr ⟨gL, x.toNat, none⟩ (.slice (some ⟨gN, 0, none⟩) l0.length cN : Value)) w0.heap.size (fun _ => True) (.slice (some ⟨gL, 0, none⟩) l0.length cL) (Lb.set x.toNat NX)) := HPU
                      have n1_ : Aside0 (World.cell? (World.setCell wr ⟨gL, x.toNat, none⟩ (.slice (some ⟨gN, 0, none⟩) l0.length cN : Value)) ⟨gL, rank.toNat, none⟩ = some (.slice (some ⟨grvi, 0, none⟩) l0.length crvi : Value)) := ⟨blk_other HBK.out HXC.out ((HB2.out.cell (World.block_lt_of_cell? wq _ HO.out)).trans HO.out)⟩
                      have n2_ : Aside0 (Below w0.heap.size w0 (World.setCell wr ⟨gL, x.toNat, none⟩ (.slice (some ⟨gN, 0, none⟩) l0.length cN : Value))) := ⟨below_set (below_step HB.out HB2.out) HGL.out⟩
                      clear SL HB HB2 hzp hfp HBK HPU RN HO
                      generalize (World.setCell wr ⟨gL, x.toNat, none⟩ (.slice (some ⟨gN, 0, none⟩) l0.length cN : Value)) = w7 at n0_ n1_ n2_ ⊢
                      have SL := n0_
                      have HO := n1_
                      have HB := n2_
                      clear n0_ n1_ n2_
                      go_roundg k3
                      case measure => omega
                      case rel => exact ⟨Lb.set x.toNat NX, wrap64 (x + 1), q, (by first | rfl | (simp; done) | (simp [*]; done)), ⟨by have := HQ3.out; omega⟩, ⟨by have := HX.out; rw [HW.out]; omega⟩, ⟨by rw [HW.out]; exact HA.out⟩, ⟨HSL.out.set x.toNat (by have := HX0.out; have := HX1.out; omega) HNL.out⟩, ⟨by rw [iv.getD_set Lb x.toNat rank.toNat _ (by rw [HSL.out.1]; have := HX0.out; have := HX1.out; omega), if_neg HXC.out]; exact HLC.out⟩, ⟨HO.out⟩, ⟨(by (with_reducible repeat (first | apply Kd.S_alloc | apply Kd.S_drewN | apply Kd.S_drew)); exact SL.out)⟩, ⟨(by repeat (first | (with_reducible first | exact HB.out | apply below_alloc | apply pw_below_drewN | apply below_drew1) | exact HB.out))⟩⟩
                    | succ s =>
                      have h0 : 0 ≤ y := HY.out.2
                      have h1 : y < (l0.length : Int) := by have := HY.out; omega
                      have cyb : decide (y < (l0.length : Int)) = true := decide_eq_true h1
                      have ppy : (0 ≤ y) = True := eq_true (h0)
                      have qqy : (y < (l0.length : Int)) = True := eq_true (h1)
                      have HY0 := Aside0.mk h0
                      have HY1 := Aside0.mk h1
                      clear h0 h1
                      try go_wp2
                      (first | (rw [drewN_self wr]; generalize hq_ : World.drewN wr _ = w6) | (rw [drew_self wr]; generalize hq1_ : World.drew wr = w6; have hq_ : World.drewN wr 1 = w6 := hq1_; clear hq1_) | (rw [show wr = World.drewN wr 0 from rfl]; generalize hq_ : World.drewN wr 0 = w6))
                      have n_ := Aside0.mk (Kd.R_at hq_ RN.out); clear RN; have RN := n_; clear n_
                      have n_ := Aside0.mk (ar_below_at hq_ HB2.out); clear HB2; have HB2 := n_; clear n_
                      clear hq_
                      have n_ := Aside0.mk (Kd.R_drew RN.out); clear RN; have RN := n_; clear n_
                      have n_ := Aside0.mk (below_drew1 HB2.out); clear HB2; have HB2 := n_; clear n_
                      obtain ⟨grA, crA, hzA, hfA_, hbA_, hkA_, hnA_, hcA_, _⟩ := mx_atm (m := l0.length) (Kd.S_below SL.out HB2.out) x HX0.out HX1.out (HSL.out.at _ HX0.out HX1.out) (by have := HM.out; omega)
                      obtain ⟨hvA0, hfA0⟩ := hcA_ y HY0.out HY1.out
                      clear hfA_ hbA_ hkA_ hnA_ hcA_
                      obtain ⟨grB, crB, hzB, hfB_, hbB_, hkB_, hnB_, hcB_, _⟩ := mx_atm (m := l0.length) (Kd.S_below SL.out HB2.out) rank HRK.out.1 HRM.out (HSL.out.at _ HRK.out.1 HRM.out) (by have := HM.out; omega)
                      obtain ⟨hvB0, hfB0⟩ := hcB_ y HY0.out HY1.out
                      clear hfB_ hbB_ hkB_ hnB_ hcB_
                      have e_ := Option.some.inj (hzB.symm.trans ((HB2.out.cell (World.block_lt_of_cell? wq _ HO.out)).trans HO.out))
                      cases e_
                      clear hzB hfA0 hfB0
                      refine start_ (n := 24) (S := fun w' => w'.cell? ⟨gL, (x).toNat, none⟩ = some (.slice (some ⟨grA, 0, none⟩) l0.length crA) ∧ w'.cell? ⟨grA, (y).toNat, none⟩ = some (.int .i64 (iv.gt Lb x y)) ∧ w'.cell? ⟨grvi, (y).toNat, none⟩ = some (.int .i64 (iv.gt Lb rank y))) (ds := [21, 22]) #[false, false, false, false, false, false, false, false, false, false, false, false, false, false, false, false, false, false, false, false, false, false, false, false] (by kernel_rfl) rfl rfl ⟨hzA, hvA0, hvB0⟩ (fun hHeld => ?_)
                      refine with_tabW spec_l08Rank.tab22 spec_l08Rank.bits22 (fun HT_ HW_ => ?_)
                      generalize w6.drew = w7 at RN HB2 hzA hvA0 hvB0 hHeld ⊢
                      refine pure_ (i := 0) (N := some 100) (v := ?_) (a' := ?_) #[true, false, false, false, false, false, false, false, false, false, false, false, false, false, false, false, false, false, false, false, false, false, false, false] rfl rfl (any_of HT_.out (by kernel_rfl)) (fun _ _ _ h => h) (Or.inl ⟨by rfl, ?_⟩) ?_ ?_
                      rotate_left
                      · intro w'
                        go_simp
                        with_reducible rfl
                      rotate_left
                      · simp only [Act.put, List.setIfInBounds_toArray, List.set_cons_zero, List.set_cons_succ, i64_w, i32_w]
                        rfl
                      refine pure_ (i := 1) (N := some 101) (v := ?_) (a' := ?_) #[true, true, false, false, false, false, false, false, false, false, false, false, false, false, false, false, false, false, false, false, false, false, false, false] rfl rfl (any_of HT_.out (by kernel_rfl)) (fun _ _ _ h => h) (Or.inl ⟨by rfl, ?_⟩) ?_ ?_
                      rotate_left
                      · intro w'
                        go_simp
                        with_reducible rfl
                      rotate_left
                      · simp only [Act.put, List.setIfInBounds_toArray, List.set_cons_zero, List.set_cons_succ, i64_w, i32_w]
                        rfl
                      refine pure_ (i := 2) (N := some 102) (v := ?_) (a' := ?_) #[true, true, true, false, false, false, false, false, false, false, false, false, false, false, false, false, false, false, false, false, false, false, false, false] rfl rfl (any_of HT_.out (by kernel_rfl)) (fun _ _ _ h => h) (Or.inl ⟨by rfl, ?_⟩) ?_ ?_
                      rotate_left
                      · intro w'
                        go_simp
                        with_reducible rfl
                      rotate_left
                      · simp only [Act.put, List.setIfInBounds_toArray, List.set_cons_zero, List.set_cons_succ, i64_w, i32_w]
                        rfl
                      refine pure_ (i := 3) (N := some 103) (v := ?_) (a' := ?_) #[true, true, true, true, false, false, false, false, false, false, false, false, false, false, false, false, false, false, false, false, false, false, false, false] rfl rfl (any_of HT_.out (by kernel_rfl)) (fun _ _ _ h => h) (Or.inl ⟨by rfl, ?_⟩) ?_ ?_
                      rotate_left
                      · intro w'
                        go_simp
                        with_reducible rfl
                      rotate_left
                      · simp only [Act.put, List.setIfInBounds_toArray, List.set_cons_zero, List.set_cons_succ, i64_w, i32_w]
                        rfl
                      refine pure_ (i := 5) (N := some 105) (v := ?_) (a' := ?_) #[true, true, true, true, false, true, false, false, false, false, false, false, false, false, false, false, false, false, false, false, false, false, false, false] rfl rfl (any_of HT_.out (by kernel_rfl)) (fun _ _ _ h => h) (Or.inl ⟨by rfl, ?_⟩) ?_ ?_
                      rotate_left
                      · intro w'
                        go_simp
                        with_reducible rfl
                      rotate_left
                      · simp only [Act.put, List.setIfInBounds_toArray, List.set_cons_zero, List.set_cons_succ, i64_w, i32_w]
                        rfl
                      refine pure_ (i := 8) (N := some 108) (v := ?_) (a' := ?_) #[true, true, true, true, false, true, false, false, true, false, false, false, false, false, false, false, false, false, false, false, false, false, false, false] rfl rfl (any_of HT_.out (by kernel_rfl)) (fun _ _ _ h => h) (Or.inl ⟨by rfl, ?_⟩) ?_ ?_
                      rotate_left
                      · intro w'
                        go_simp
                        with_reducible rfl
                      rotate_left
                      · simp only [Act.put, List.setIfInBounds_toArray, List.set_cons_zero, List.set_cons_succ, i64_w, i32_w]
                        rfl
                      refine pure_ (i := 9) (N := some 109) (v := ?_) (a' := ?_) #[true, true, true, true, false, true, false, false, true, true, false, false, false, false, false, false, false, false, false, false, false, false, false, false] rfl rfl (any_of HT_.out (by kernel_rfl)) (fun _ _ _ h => h) (Or.inl ⟨by rfl, ?_⟩) ?_ ?_
                      rotate_left
                      · intro w'
                        go_simp
                        with_reducible rfl
                      rotate_left
                      · simp only [Act.put, List.setIfInBounds_toArray, List.set_cons_zero, List.set_cons_succ, i64_w, i32_w]
                        rfl
                      refine pure_ (i := 10) (N := some 110) (v := ?_) (a' := ?_) #[true, true, true, true, false, true, false, false, true, true, true, false, false, false, false, false, false, false, false, false, false, false, false, false] rfl rfl (any_of HT_.out (by kernel_rfl)) (fun _ _ _ h => h) (Or.inl ⟨by rfl, ?_⟩) ?_ ?_
                      rotate_left
                      · intro w'
                        go_simp
                        with_reducible rfl
                      rotate_left
                      · simp only [Act.put, List.setIfInBounds_toArray, List.set_cons_zero, List.set_cons_succ, i64_w, i32_w]
                        rfl
                      refine pure_ (i := 11) (N := some 111) (v := ?_) (a' := ?_) #[true, true, true, true, false, true, false, false, true, true, true, true, false, false, false, false, false, false, false, false, false, false, false, false] rfl rfl (any_of HT_.out (by kernel_rfl)) (fun _ _ _ h => h) (Or.inl ⟨by rfl, ?_⟩) ?_ ?_
                      rotate_left
                      · intro w'
                        go_simp
                        with_reducible rfl
                      rotate_left
                      · simp only [Act.put, List.setIfInBounds_toArray, List.set_cons_zero, List.set_cons_succ, i64_w, i32_w]
                        rfl
                      refine pure_ (i := 15) (N := some 115) (v := ?_) (a' := ?_) #[true, true, true, true, false, true, false, false, true, true, true, true, false, false, false, true, false, false, false, false, false, false, false, false] rfl rfl (any_of HT_.out (by kernel_rfl)) (fun _ _ _ h => h) (Or.inl ⟨by rfl, ?_⟩) ?_ ?_
                      rotate_left
                      · intro w'
                        go_simp
                        with_reducible rfl
                      rotate_left
                      · simp only [Act.put, List.setIfInBounds_toArray, List.set_cons_zero, List.set_cons_succ, i64_w, i32_w]
                        rfl
                      refine pure_ (i := 17) (N := some 117) (v := ?_) (a' := ?_) #[true, true, true, true, false, true, false, false, true, true, true, true, false, false, false, true, false, true, false, false, false, false, false, false] rfl rfl (any_of HT_.out (by kernel_rfl)) (fun _ _ _ h => h) (Or.inl ⟨by rfl, ?_⟩) ?_ ?_
                      rotate_left
                      · intro w'
                        go_simp
                        with_reducible rfl
                      rotate_left
                      · simp only [Act.put, List.setIfInBounds_toArray, List.set_cons_zero, List.set_cons_succ, i64_w, i32_w]
                        rfl
                      refine pure_ (i := 19) (N := some 119) (v := ?_) (a' := ?_) #[true, true, true, true, false, true, false, false, true, true, true, true, false, false, false, true, false, true, false, true, false, false, false, false] rfl rfl (any_of HT_.out (by kernel_rfl)) (fun _ _ _ h => h) (Or.inl ⟨by rfl, ?_⟩) ?_ ?_
                      rotate_left
                      · intro w'
                        go_simp
                        with_reducible rfl
                      rotate_left
                      · simp only [Act.put, List.setIfInBounds_toArray, List.set_cons_zero, List.set_cons_succ, i64_w, i32_w]
                        rfl
                      refine take_ (i := 4) (N := some 104) (v := ?_) (a' := ?_) #[true, true, true, true, true, true, false, false, true, true, true, true, false, false, false, true, false, true, false, true, false, false, false, false] rfl rfl (take_ofW HT_.out HW_.out (by kernel_rfl)) (fun _ _ _ h => h) (Or.inl ⟨by rfl, ?_⟩) hHeld ?_ ?_
                      rotate_left
                      · rintro w' ⟨s0, s1, s2⟩
                        go_simp
                        with_reducible rfl
                      rotate_left
                      · simp only [Act.put, List.setIfInBounds_toArray, List.set_cons_zero, List.set_cons_succ, i64_w, i32_w]
                        rfl
                      refine pure_ (i := 6) (N := some 106) (v := ?_) (a' := ?_) #[true, true, true, true, true, true, true, false, true, true, true, true, false, false, false, true, false, true, false, true, false, false, false, false] rfl rfl (any_of HT_.out (by kernel_rfl)) (fun _ _ _ h => h) (Or.inl ⟨by rfl, ?_⟩) ?_ ?_
                      rotate_left
                      · intro w'
                        go_simp
                        with_reducible rfl
                      rotate_left
                      · simp only [Act.put, List.setIfInBounds_toArray, List.set_cons_zero, List.set_cons_succ, i64_w, i32_w]
                        rfl
                      refine take_ (i := 7) (N := some 107) (v := ?_) (a' := ?_) #[true, true, true, true, true, true, true, true, true, true, true, true, false, false, false, true, false, true, false, true, false, false, false, false] rfl rfl (take_ofW HT_.out HW_.out (by kernel_rfl)) (fun _ _ _ h => h) (Or.inl ⟨by rfl, ?_⟩) hHeld ?_ ?_
                      rotate_left
                      · rintro w' ⟨s0, s1, s2⟩
                        go_simp
                        with_reducible rfl
                      rotate_left
                      · simp only [Act.put, List.setIfInBounds_toArray, List.set_cons_zero, List.set_cons_succ, i64_w, i32_w]
                        rfl
                      refine take_ (i := 12) (N := some 112) (v := ?_) (a' := ?_) #[true, true, true, true, true, true, true, true, true, true, true, true, true, false, false, true, false, true, false, true, false, false, false, false] rfl rfl (take_ofW HT_.out HW_.out (by kernel_rfl)) (fun _ _ _ h => h) (Or.inl ⟨by rfl, ?_⟩) hHeld ?_ ?_
                      rotate_left
                      · rintro w' ⟨s0, s1, s2⟩
                        go_simp
                        with_reducible rfl
                      rotate_left
                      · simp only [Act.put, List.setIfInBounds_toArray, List.set_cons_zero, List.set_cons_succ, i64_w, i32_w]
                        rfl
                      refine pure_ (i := 13) (N := some 113) (v := ?_) (a' := ?_) #[true, true, true, true, true, true, true, true, true, true, true, true, true, true, false, true, false, true, false, true, false, false, false, false] rfl rfl (any_of HT_.out (by kernel_rfl)) (fun _ _ _ h => h) (Or.inl ⟨by rfl, ?_⟩) ?_ ?_
                      rotate_left
                      · intro w'
                        go_simp
                        with_reducible rfl
                      rotate_left
                      · simp only [Act.put, List.setIfInBounds_toArray, List.set_cons_zero, List.set_cons_succ, i64_w, i32_w]
                        rfl
                      refine pure_ (i := 14) (N := some 114) (v := ?_) (a' := ?_) #[true, true, true, true, true, true, true, true, true, true, true, true, true, true, true, true, false, true, false, true, false, false, false, false] rfl rfl (any_of HT_.out (by kernel_rfl)) (fun _ _ _ h => h) (Or.inl ⟨by rfl, ?_⟩) ?_ ?_
                      rotate_left
                      · intro w'
                        go_simp
                        with_reducible rfl
                      rotate_left
                      · simp only [Act.put, List.setIfInBounds_toArray, List.set_cons_zero, List.set_cons_succ, i64_w, i32_w]
                        rfl
                      refine pure_ (i := 16) (N := some 116) (v := ?_) (a' := ?_) #[true, true, true, true, true, true, true, true, true, true, true, true, true, true, true, true, true, true, false, true, false, false, false, false] rfl rfl (any_of HT_.out (by kernel_rfl)) (fun _ _ _ h => h) (Or.inl ⟨by rfl, ?_⟩) ?_ ?_
                      rotate_left
                      · intro w'
                        go_simp
                        with_reducible rfl
                      rotate_left
                      · simp only [Act.put, List.setIfInBounds_toArray, List.set_cons_zero, List.set_cons_succ, i64_w, i32_w]
                        rfl
                      refine pure_ (i := 18) (N := some 118) (v := ?_) (a' := ?_) #[true, true, true, true, true, true, true, true, true, true, true, true, true, true, true, true, true, true, true, true, false, false, false, false] rfl rfl (any_of HT_.out (by kernel_rfl)) (fun _ _ _ h => h) (Or.inl ⟨by rfl, ?_⟩) ?_ ?_
                      rotate_left
                      · intro w'
                        go_simp
                        with_reducible rfl
                      rotate_left
                      · simp only [Act.put, List.setIfInBounds_toArray, List.set_cons_zero, List.set_cons_succ, i64_w, i32_w]
                        rfl
                      refine pure_ (i := 20) (N := some 120) (v := ?_) (a' := ?_) #[true, true, true, true, true, true, true, true, true, true, true, true, true, true, true, true, true, true, true, true, true, false, false, false] rfl rfl (any_of HT_.out (by kernel_rfl)) (fun _ _ _ h => h) (Or.inl ⟨by rfl, ?_⟩) ?_ ?_
                      rotate_left
                      · intro w'
                        go_simp
                        with_reducible rfl
                      rotate_left
                      · simp only [Act.put, List.setIfInBounds_toArray, List.set_cons_zero, List.set_cons_succ, i64_w, i32_w]
                        rfl
                      refine last_ (i := 21) (N := some 121) #[true, true, true, true, true, true, true, true, true, true, true, true, true, true, true, true, true, true, true, true, true, true, false, false] rfl rfl (one_of HT_.out (by kernel_rfl)) (by decide) (fun K hK => ?_)
                      refine value_ (w1 := ?_) (v := ?_) (by rfl) rfl ?_ ?_
                      rotate_left 2
                      · go_simp
                        constructor
                        · rfl
                        · rfl
                      refine hK.out _ _ ?_
                      clear hK K
                      refine norm_ (a' := ?_) ?_ ?_
                      rotate_left
                      · show Act.put _ (some 121) _ = _
                        simp only [Act.put, List.setIfInBounds_toArray, List.set_cons_zero, List.set_cons_succ, i64_w, i32_w]
                        rfl
                      refine last_ (i := 22) (N := some 122) #[true, true, true, true, true, true, true, true, true, true, true, true, true, true, true, true, true, true, true, true, true, true, true, false] rfl rfl (one_of HT_.out (by kernel_rfl)) (by decide) (fun K hK => ?_)
                      refine Kd.R_append_step (Kd.int .i64) (w0 := wq) wq.heap.size (by rfl) (.tmp 100) (.tmp 121) 22 2 (.int .i64 0) 8 rfl Try.underlying22 info2 rfl (by decide) (by omega) (u12) (NX.take y.toNat) (Int.tmod (wrap64 (Int.tmod (wrap64 (iv.gt Lb x y - wrap64 (Int.tmod (wrap64 (iv.gt Lb x c * v)) a1 * iv.gt Lb rank y))) a1 + a1)) a1) [.int .i64 (Int.tmod (wrap64 (Int.tmod (wrap64 (iv.gt Lb x y - wrap64 (Int.tmod (wrap64 (iv.gt Lb x c * v)) a1 * iv.gt Lb rank y))) a1 + a1)) a1)] (fun _ => True) (fun _ => False) rfl rfl ?aP (fun _ hk => hk.elim) ?aF ?aO ?aB ?aS ?aL ?_
                      (case aP => exact rfl)
                      (case aB => exact (by repeat (first | (with_reducible first | exact HB2.out | apply below_alloc | apply pw_below_drewN | apply below_drew1) | exact HB2.out)))
                      (case aF => exact (fun _ _ => trivial))
                      (case aO => exact (by (with_reducible repeat (first | apply Kd.R_alloc | apply Kd.R_drewN | apply Kd.R_drew)); exact RN.out))
                      (case aS => exact (below_size (by repeat (first | (with_reducible first | exact HB2.out | apply below_alloc | apply pw_below_drewN | apply below_drew1) | exact HB2.out))))
                      (case aL => rw [List.length_take]; have := HM.out; have := HY0.out; have := HY1.out; omega)
                      intro v17_ w13 ho hb hg hat
                      clear HB2 RN
                      have HB2 := Aside0.mk hb
                      have RN := Aside0.mk ho
                      clear ho hb hg hat
                      refine hK.out _ _ ?_
                      clear hK K
                      refine norm_ (a' := ?_) ?_ ?_
                      rotate_left
                      · show Act.put _ (some 122) _ = _
                        simp only [Act.put, List.setIfInBounds_toArray, List.set_cons_zero, List.set_cons_succ, i64_w, i32_w]
                        rfl
                      refine pure_ (i := 23) (N := some 12) (v := ?_) (a' := ?_) #[true, true, true, true, true, true, true, true, true, true, true, true, true, true, true, true, true, true, true, true, true, true, true, true] rfl rfl (any_of HT_.out (by kernel_rfl)) (fun _ _ _ h => h) (Or.inl ⟨by rfl, ?_⟩) ?_ ?_
                      rotate_left
                      · intro w'
                        go_simp
                        with_reducible rfl
                      rotate_left
                      · simp only [Act.put, List.setIfInBounds_toArray, List.set_cons_zero, List.set_cons_succ, i64_w, i32_w]
                        rfl
                      refine done_ (done_of HT_.out (by kernel_rfl)) ?_
                      clear hzA hvA0 hvB0 HT_ HW_
                      (try clear hHeld)
                      try go_wp2
                      go_roundg k4
                      case measure => omega
                      case rel =>
                        have HW2 := Aside0.mk (show wrap64 (y + 1) = y + 1 by have := HY0.out; have := HY1.out; have := HM.out; unfold wrap64; omega)
                        have HT : Aside0 (NX.take y.toNat ++ [Int.tmod (wrap64 (Int.tmod (wrap64 (iv.gt Lb x y - wrap64 (Int.tmod (wrap64 (iv.gt Lb x c * v)) a1 * iv.gt Lb rank y))) a1 + a1)) a1] = NX.take (y + 1).toNat) := ⟨by have h_ := rk.elS_take a1 (Int.tmod (wrap64 (iv.gt Lb x c * v)) a1) (Lb.getD x.toNat []) (Lb.getD rank.toNat []) y HY0.out (by have e_ := HSL.out.at x HX0.out HX1.out; have := HY0.out; have := HY1.out; omega) (by have e_ := HSL.out.at rank HRK.out.1 HRM.out; have := HY0.out; have := HY1.out; omega); rw [show rk.elS a1 (Int.tmod (wrap64 (iv.gt Lb x c * v)) a1) (Lb.getD x.toNat []) (Lb.getD rank.toNat []) = NX from by rw [HLC.out]; exact HNX.out] at h_; exact h_⟩
                        exact ⟨wrap64 (y + 1), s, (by first | rfl | (simp; done) | (simp [*]; done)), ⟨by have := HQ4.out; omega⟩, ⟨by have := HY.out; rw [HW2.out]; omega⟩, ⟨by rw [HW2.out, ← HT.out]; exact (by (with_reducible repeat (first | apply Kd.R_alloc | apply Kd.R_drewN | apply Kd.R_drew)); exact RN.out)⟩, ⟨(by repeat (first | (with_reducible first | exact HB2.out | apply below_alloc | apply pw_below_drewN | apply below_drew1) | exact HB2.out))⟩⟩


end Go.Proofs.Ytcbomfkimohlfaa.MFnExactCountColourings
