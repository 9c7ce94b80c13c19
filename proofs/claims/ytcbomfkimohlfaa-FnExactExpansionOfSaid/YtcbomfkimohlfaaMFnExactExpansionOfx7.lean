-- Walks of the functions that a law reaches, one after the other: plain functions, and that the machine's calls come to what they tell (wip/tools/myprint.py of this repo).
import Derived.Test.YtcbomfkimohlfaaMFnExactExpansionOfx0
namespace Go.Proofs.Ytcbomfkimohlfaa.MFnExactExpansionOf
open Go.RowKit Go.Proofs.YtcbomfkimohlfaaW.PrintWords Go.Proofs.YtcbomfkimohlfaaW.PrintLast Go.Proofs.YtcbomfkimohlfaaW.PrintMore
attribute [local go_sem] max2_int min2_int max_two min_two max_three min_three max_four min_four   -- for this text's walks alone
set_option linter.unusedVariables false
set_option linter.unusedSimpArgs false

/-! ### spec_l10Expansion: function 69 -/
mutual
def spec_l10Expansion.l0 : Nat → List Int → Int → List Int → List (List Int) → Int → Option ((List (List Int)))
 | 0, _, _, _, _, _ => none
 | k + 1, x0, x1, x5, x6, x7 => if x7 < x1 then (if 0 ≤ x1 then (if (x1 : Int).toNat ≤ 35184372088832 then (if x6.length < 5864062014805 then (spec_l10Expansion.l0 k x0 x1 x5 (x6 ++ [(List.replicate (x1 : Int).toNat 0)]) (wrap64 (x7 + 1))) else (none)) else (none)) else (none)) else (spec_l10Expansion.l1 k x0 x1 x5 x6 0)
def spec_l10Expansion.l1 : Nat → List Int → Int → List Int → List (List Int) → Int → Option ((List (List Int)))
 | 0, _, _, _, _, _ => none
 | k + 1, x0, x1, x5, x6, x8 => if x8 < (x0.length : Int) then (if 0 ≤ x8 then (if (rd x0 x8) < 0 then (spec_l10Expansion.j2 k x0 x1 x5 x6 x8 (wrap64 ((mx (rd x0 x8) (wrap64 (-(rd x0 x8)))) - 1)) (-1)) else (spec_l10Expansion.j2 k x0 x1 x5 x6 x8 (wrap64 ((mx (rd x0 x8) (wrap64 (-(rd x0 x8)))) - 1)) 1)) else (none)) else (some x6)
def spec_l10Expansion.j2 : Nat → List Int → Int → List Int → List (List Int) → Int → Int → Int → Option ((List (List Int)))
 | 0, _, _, _, _, _, _, _ => none
 | k + 1, x0, x1, x5, x6, x8, x9, x10 => spec_l10Expansion.l2 k x0 x1 x5 x6 x8 x9 x10 0
def spec_l10Expansion.l2 : Nat → List Int → Int → List Int → List (List Int) → Int → Int → Int → Int → Option ((List (List Int)))
 | 0, _, _, _, _, _, _, _, _ => none
 | k + 1, x0, x1, x5, x6, x8, x9, x10, x11 => if x11 < x1 then (if 0 ≤ x11 then (if x11 < (x6.length : Int) then (if 0 ≤ x9 then (if x9 < ((rd_L1 x6 x11).length : Int) then (if x11 < (x5.length : Int) then ((some (x6.set (x11 : Int).toNat ((rd_L1 x6 x11).set (x9 : Int).toNat (wrap64 ((rd (rd_L1 x6 x11) x9) + (wrap64 (x10 * (rd x5 x11)))))) : List (List Int))).bind fun y306 => (if x11 = x9 then (if x10 < 0 then (if x9 < ((rd_L1 y306 x11).length : Int) then (spec_l10Expansion.l2 k x0 x1 x5 (y306.set (x11 : Int).toNat ((rd_L1 y306 x11).set (x9 : Int).toNat (wrap64 ((rd (rd_L1 y306 x11) x9) + 1)))) x8 x9 x10 (wrap64 (x11 + 1))) else (none)) else (spec_l10Expansion.l2 k x0 x1 x5 y306 x8 x9 x10 (wrap64 (x11 + 1)))) else (spec_l10Expansion.l2 k x0 x1 x5 y306 x8 x9 x10 (wrap64 (x11 + 1))))) else (none)) else (none)) else (none)) else (none)) else (none)) else (if 0 ≤ x9 then (if x9 < (x5.length : Int) then (spec_l10Expansion.l1 k x0 x1 (x5.set (x9 : Int).toNat (wrap64 ((rd x5 x9) + x10))) x6 (wrap64 (x8 + 1))) else (none)) else (none))
end
def spec_l10Expansion.f (k : Nat) (l0 : List Int) (a1 : Int) : Option ((List (List Int))) := if 0 ≤ a1 then (if (a1 : Int).toNat ≤ 35184372088832 then (spec_l10Expansion.l0 k l0 a1 (List.replicate (a1 : Int).toNat 0) (([] : List (List Int))) 0) else (none)) else (none)
theorem spec_l10Expansion.mono_l : ∀ k, (∀ y0 y1 y2 y3 y4, LeO (spec_l10Expansion.l0 k y0 y1 y2 y3 y4) (spec_l10Expansion.l0 (k + 1) y0 y1 y2 y3 y4)) ∧ (∀ y0 y1 y2 y3 y4, LeO (spec_l10Expansion.l1 k y0 y1 y2 y3 y4) (spec_l10Expansion.l1 (k + 1) y0 y1 y2 y3 y4)) ∧ (∀ y0 y1 y2 y3 y4 y5 y6, LeO (spec_l10Expansion.j2 k y0 y1 y2 y3 y4 y5 y6) (spec_l10Expansion.j2 (k + 1) y0 y1 y2 y3 y4 y5 y6)) ∧ (∀ y0 y1 y2 y3 y4 y5 y6 y7, LeO (spec_l10Expansion.l2 k y0 y1 y2 y3 y4 y5 y6 y7) (spec_l10Expansion.l2 (k + 1) y0 y1 y2 y3 y4 y5 y6 y7))
 | 0 => ⟨fun _ _ _ _ _ r h => by simp [spec_l10Expansion.l0] at h, fun _ _ _ _ _ r h => by simp [spec_l10Expansion.l1] at h, fun _ _ _ _ _ _ _ r h => by simp [spec_l10Expansion.j2] at h, fun _ _ _ _ _ _ _ _ r h => by simp [spec_l10Expansion.l2] at h⟩
 | k + 1 => by
  obtain ⟨ih0, ih1, ih2, ih3⟩ := spec_l10Expansion.mono_l k
  refine ⟨?_, ?_, ?_, ?_⟩
  ·intro y0 y1 y2 y3 y4
   unfold spec_l10Expansion.l0
   repeat' first
   | (with_reducible exact ih0 _ _ _ _ _)
   | (with_reducible exact ih1 _ _ _ _ _)
   | (with_reducible exact ih2 _ _ _ _ _ _ _)
   | (with_reducible exact ih3 _ _ _ _ _ _ _ _)
   | (with_reducible exact LeO.refl _)
   | (with_reducible exact LeO.none _)
   | (with_reducible refine LeO.ite ?_ ?_)
   | (with_reducible refine LeO.bind ?_ (fun _ => ?_))
   | exact ih0 _ _ _ _ _
   | exact ih1 _ _ _ _ _
   | exact ih2 _ _ _ _ _ _ _
   | exact ih3 _ _ _ _ _ _ _ _
   | exact LeO.none _
   | refine LeO.ite ?_ ?_
   | refine LeO.bind ?_ (fun _ => ?_)
  ·intro y0 y1 y2 y3 y4
   unfold spec_l10Expansion.l1
   repeat' first
   | (with_reducible exact ih0 _ _ _ _ _)
   | (with_reducible exact ih1 _ _ _ _ _)
   | (with_reducible exact ih2 _ _ _ _ _ _ _)
   | (with_reducible exact ih3 _ _ _ _ _ _ _ _)
   | (with_reducible exact LeO.refl _)
   | (with_reducible exact LeO.none _)
   | (with_reducible refine LeO.ite ?_ ?_)
   | (with_reducible refine LeO.bind ?_ (fun _ => ?_))
   | exact ih0 _ _ _ _ _
   | exact ih1 _ _ _ _ _
   | exact ih2 _ _ _ _ _ _ _
   | exact ih3 _ _ _ _ _ _ _ _
   | exact LeO.none _
   | refine LeO.ite ?_ ?_
   | refine LeO.bind ?_ (fun _ => ?_)
  ·intro y0 y1 y2 y3 y4 y5 y6
   unfold spec_l10Expansion.j2
   repeat' first
   | (with_reducible exact ih0 _ _ _ _ _)
   | (with_reducible exact ih1 _ _ _ _ _)
   | (with_reducible exact ih2 _ _ _ _ _ _ _)
   | (with_reducible exact ih3 _ _ _ _ _ _ _ _)
   | (with_reducible exact LeO.refl _)
   | (with_reducible exact LeO.none _)
   | (with_reducible refine LeO.ite ?_ ?_)
   | (with_reducible refine LeO.bind ?_ (fun _ => ?_))
   | exact ih0 _ _ _ _ _
   | exact ih1 _ _ _ _ _
   | exact ih2 _ _ _ _ _ _ _
   | exact ih3 _ _ _ _ _ _ _ _
   | exact LeO.none _
   | refine LeO.ite ?_ ?_
   | refine LeO.bind ?_ (fun _ => ?_)
  ·intro y0 y1 y2 y3 y4 y5 y6 y7
   unfold spec_l10Expansion.l2
   repeat' first
   | (with_reducible exact ih0 _ _ _ _ _)
   | (with_reducible exact ih1 _ _ _ _ _)
   | (with_reducible exact ih2 _ _ _ _ _ _ _)
   | (with_reducible exact ih3 _ _ _ _ _ _ _ _)
   | (with_reducible exact LeO.refl _)
   | (with_reducible exact LeO.none _)
   | (with_reducible refine LeO.ite ?_ ?_)
   | (with_reducible refine LeO.bind ?_ (fun _ => ?_))
   | exact ih0 _ _ _ _ _
   | exact ih1 _ _ _ _ _
   | exact ih2 _ _ _ _ _ _ _
   | exact ih3 _ _ _ _ _ _ _ _
   | exact LeO.none _
   | refine LeO.ite ?_ ?_
   | refine LeO.bind ?_ (fun _ => ?_)
theorem spec_l10Expansion.mono : ∀ a0 a1 k, LeO (spec_l10Expansion.f k a0 a1) (spec_l10Expansion.f (k + 1) a0 a1) := by
 intro a0 a1 k
 obtain ⟨ih0, ih1, ih2, ih3⟩ := spec_l10Expansion.mono_l k
 unfold spec_l10Expansion.f
 repeat' first
   | (with_reducible exact ih0 _ _ _ _ _)
   | (with_reducible exact ih1 _ _ _ _ _)
   | (with_reducible exact ih2 _ _ _ _ _ _ _)
   | (with_reducible exact ih3 _ _ _ _ _ _ _ _)
   | (with_reducible exact LeO.refl _)
   | (with_reducible exact LeO.none _)
   | (with_reducible refine LeO.ite ?_ ?_)
   | (with_reducible refine LeO.bind ?_ (fun _ => ?_))
   | exact ih0 _ _ _ _ _
   | exact ih1 _ _ _ _ _
   | exact ih2 _ _ _ _ _ _ _
   | exact ih3 _ _ _ _ _ _ _ _
   | exact LeO.none _
   | refine LeO.ite ?_ ?_
   | refine LeO.bind ?_ (fun _ => ?_)
def spec_l10Expansion.T9 : Bool × List (List Nat × List Nat) := (true, [([], []), ([], []), ([0, 1], [0, 1]), ([2], [2]), ([], []), ([], []), ([4, 5], [4, 5]), ([6], [6]), ([7], [7]), ([3, 8], [3, 8]), ([9], [9]), ([10, 0, 1, 2, 3, 4, 5, 6, 7, 8, 9, 10], [10]), ([11, 0, 1, 2, 3, 4, 5, 6, 7, 8, 9, 10, 11], [])])
def spec_l10Expansion.B9 : List Nat := [0, 0, 3, 7, 0, 0, 48, 112, 240, 511, 1023, 2047, 4095]
theorem spec_l10Expansion.tab9 : rtab .any (opsOf Try.f69 9) = spec_l10Expansion.T9 := by kernel_rfl
theorem spec_l10Expansion.bits9 : waitsOk spec_l10Expansion.T9.2 spec_l10Expansion.B9 = true := by kernel_rfl
def spec_l10Expansion.T16 : Bool × List (List Nat × List Nat) := (true, [([], []), ([], []), ([], []), ([], []), ([2, 3], [2, 3]), ([4], [4]), ([], []), ([], []), ([], []), ([7, 8], [7, 8]), ([9], [9]), ([6, 10], [6, 10]), ([5, 11], [5, 11]), ([0, 1, 0, 1, 2, 3, 4, 5, 6, 7, 8, 9, 10, 11, 12], [0, 1]), ([13, 12, 0, 1, 2, 3, 4, 5, 6, 7, 8, 9, 10, 11, 12], [12, 13])])
def spec_l10Expansion.B16 : List Nat := [0, 0, 0, 0, 12, 28, 0, 0, 0, 384, 896, 1984, 4092, 8191, 16383]
theorem spec_l10Expansion.tab16 : rtab .any (opsOf Try.f69 16) = spec_l10Expansion.T16 := by kernel_rfl
theorem spec_l10Expansion.bits16 : waitsOk spec_l10Expansion.T16.2 spec_l10Expansion.B16 = true := by kernel_rfl
set_option maxHeartbeats 8000000 in
set_option maxRecDepth 100000 in
theorem spec_l10Expansion.calls (k : Nat) (A0 : Option Addr) (c0 : Nat) (l0 : List Int) (a1 : Int) (r : List (List Int)) (w : World) (hr0 : Kd.C (Kd.int .i64) w A0 l0.length l0) (hc0 : l0.length ≤ c0) (h : spec_l10Expansion.f k l0 a1 = some r) :
  Calls Try.prog 69 #[.slice A0 l0.length c0, .int .i64 a1] w fun e w' => ∃ v0_ : Value, e = .returned (v0_) ∧ Kd.S (Kd.slice 2 (Kd.int .i64)) 22 w' w.heap.size (fun _ => True) v0_ r ∧ Below w.heap.size w w' := by
 have HR0 := Aside0.mk hr0
 have HC0 := Aside0.mk hc0
 clear hr0 hc0
 have HB := Aside0.mk (Below.refl w.heap.size w)
 have H : (if 0 ≤ a1 then (if (a1 : Int).toNat ≤ 35184372088832 then (spec_l10Expansion.l0 k l0 a1 (List.replicate (a1 : Int).toNat 0) (([] : List (List Int))) 0) else (none)) else (none)) = some r := h
 clear h
 by_cases c3 : 0 ≤ a1
 ·rw [if_pos c3] at H
  have c3b0 := eq_true c3
  have c3b1 : decide (0 ≤ a1) = true := decide_eq_true c3
  clear c3
  by_cases c4 : (a1 : Int).toNat ≤ 35184372088832
  ·rw [if_pos c4] at H
   have c4b0 := eq_true c4
   have c4b1 : decide ((a1 : Int).toNat ≤ 35184372088832) = true := decide_eq_true c4
   clear c4
   obtain ⟨y286, hy286⟩ : ∃ y_ : List Int, y_ = (List.replicate (a1 : Int).toNat 0) := ⟨_, rfl⟩
   replace H : (spec_l10Expansion.l0 k l0 a1 y286 (([] : List (List Int))) 0) = some r := by first | (rw [hy286]; with_reducible exact H) | (have H2_ := (Option.bind_some _ _).symm.trans H; rw [hy286]; with_reducible exact H2_) | (have H2_ := (Option.bind_some _ _).symm.trans H; with_reducible exact H2_) | with_reducible exact H | (rw [hy286]; exact H) | exact H
   have Ny286 := Aside0.mk hy286
   clear hy286
   obtain ⟨y289, hy289⟩ : ∃ y_ : List (List Int), y_ = (([] : List (List Int))) := ⟨_, rfl⟩
   replace H : (spec_l10Expansion.l0 k l0 a1 y286 y289 0) = some r := by first | (rw [hy289]; with_reducible exact H) | (have H2_ := (Option.bind_some _ _).symm.trans H; rw [hy289]; with_reducible exact H2_) | (have H2_ := (Option.bind_some _ _).symm.trans H; with_reducible exact H2_) | with_reducible exact H | (rw [hy289]; exact H) | exact H
   have Ny289 := Aside0.mk hy289
   clear hy289
   have H' := Aside0.mk H
   clear H
   go_enter Try.func69, Try.ntmps69
   go_wp2_with (first | ((with_reducible refine gate_dst (N := 14) rfl ?_); refine Kd.R_make (Kd.int .i64) _ 2 rfl (N := 14) rfl 22 _ _ rfl a1 rfl rfl Try.underlying22 (.int .i64 0) 8 info2 rfl (by decide) (by omega) 0 (ok := fun _ => True) (okp := fun _ => True) rfl (fun _ hk => hk) trivial (of_decide_eq_true as_) (Nat.le_trans (Nat.mul_le_mul_right _ (of_decide_eq_true as_ : a1.toNat ≤ 35184372088832)) (by omega)) (Below.refl _ _) (Nat.le_refl _) ?_; intro v287 w5 ho6 hb hg_ hnew_; clear hg_ hnew_; (first | rw [← Ny286.out] at ho6 | (simp only [Int.reduceToNat] at ho6; rw [← Ny286.out] at ho6)); have n0_ := Aside0.mk (Kd.R_lower ho6 (below_size hB_)); have n1_ := Aside0.mk (below_step hB_ hb); clear HB; have HO288 := n0_; have HB := n1_; clear n0_ n1_; clear hb ho6) | ((with_reducible refine gate_dst (N := 15) rfl ?_); refine Kd.S_lit (Kd.slice 2 (Kd.int .i64)) _ 22 ?hg (N := 15) ?hd (xs := ([] : List (List Int))) (inner := []) (ok := fun _ => True) (okp := fun _ => True) ?hr ?hp (fun _ hk => hk) trivial (Below.refl _ _) (Nat.le_refl _) (by simp) ?_; (case hd => rfl); (case hg => rfl); (case hr => first | (go_simp; done) | (go_simp; rfl)); (case hp => exact (Reps.none _ _)); intro v290 w7 ho8 hb hg_ hnew_; clear hg_ hnew_; (first | rw [← Ny289.out] at ho8 | (simp only [Int.reduceToNat] at ho8; rw [← Ny289.out] at ho8)); have n0_ := Aside0.mk (Kd.R_below (by (with_reducible repeat (first | apply Kd.R_alloc | apply Kd.R_drewN | apply Kd.R_drew)); exact HO288.out) hb); have n1_ := Aside0.mk (Kd.S_lower (Kd.S_new' ho8 (Kd.R_lt (by (with_reducible repeat (first | apply Kd.R_alloc | apply Kd.R_drewN | apply Kd.R_drew)); exact HO288.out))) (below_size hB_)); have n2_ := Aside0.mk (below_step hB_ hb); clear HO288; clear HB; have HO288 := n0_; have HO291 := n1_; have HB := n2_; clear n0_ n1_ n2_; clear hb ho8))
   go_loopg [6, 7] k (fun kq v6 v7 w' => ∃ (x6_1 : List (List Int)) (x7_1 : Int), v7 = .int .i64 x7_1 ∧ Aside0 (spec_l10Expansion.l0 kq l0 a1 y286 x6_1 x7_1 = some r) ∧ Aside0 (kq ≤ k) ∧ Aside0 (Kd.R (Kd.int .i64) 2 w' w.heap.size (fun _ => True) v287 y286) ∧ Aside0 (Kd.S (Kd.slice 2 (Kd.int .i64)) 22 w' w.heap.size (fun k_ => some k_ ≠ (v287 : Value).ownBlock) v6 x6_1) ∧ Aside0 (Below w.heap.size w w'))
   case atStart => exact ⟨(y289), (0), (by first | rfl | (simp; done) | (simp [*]; done)), H', ⟨Nat.le_refl _⟩, ⟨by (with_reducible repeat (first | apply Kd.R_alloc | apply Kd.R_drewN | apply Kd.R_drew)); exact HO288.out⟩, ⟨by (with_reducible repeat (first | apply Kd.S_alloc | apply Kd.S_drewN | apply Kd.S_drew)); exact Kd.S_mono HO291.out (fun _ hk => hk.2)⟩, ⟨by repeat (first | (with_reducible first | exact HB.out | apply below_alloc | apply pw_below_drewN | apply below_drew1) | exact HB.out)⟩⟩
   case round =>
    clear H'
    try clear p2
    try clear c3
    try clear c3b0
    try clear c3b1
    try clear c4
    try clear c4b0
    try clear c4b1
    try clear c6
    obtain ⟨x6_1, x7_1, rfl, HA, HK1, HO_5, HO_6, HB⟩ := hrel
    cases gk with
    | zero => exact absurd HA.out (by simp [spec_l10Expansion.l0])
    | succ k1 =>
     have H := HA.out
     clear HA
     simp only [spec_l10Expansion.l0] at H
     by_cases c9 : x7_1 < a1
     ·rw [if_pos c9] at H
      have c9b0 : decide (x7_1 < a1) = true := decide_eq_true c9
      clear c9
      by_cases c10 : 0 ≤ a1
      ·rw [if_pos c10] at H
       have c10b0 := eq_true c10
       have c10b1 : decide (0 ≤ a1) = true := decide_eq_true c10
       clear c10
       by_cases c11 : (a1 : Int).toNat ≤ 35184372088832
       ·rw [if_pos c11] at H
        have c11b0 := eq_true c11
        have c11b1 : decide ((a1 : Int).toNat ≤ 35184372088832) = true := decide_eq_true c11
        clear c11
        obtain ⟨y292, hy292⟩ : ∃ y_ : List Int, y_ = (List.replicate (a1 : Int).toNat 0) := ⟨_, rfl⟩
        replace H : (if x6_1.length < 5864062014805 then (spec_l10Expansion.l0 k1 l0 a1 y286 (x6_1 ++ [y292]) (wrap64 (x7_1 + 1))) else (none)) = some r := by first | (rw [hy292]; with_reducible exact H) | (have H2_ := (Option.bind_some _ _).symm.trans H; rw [hy292]; with_reducible exact H2_) | (have H2_ := (Option.bind_some _ _).symm.trans H; with_reducible exact H2_) | with_reducible exact H | (rw [hy292]; exact H) | exact H
        have Ny292 := Aside0.mk hy292
        clear hy292
        by_cases c12 : x6_1.length < 5864062014805
        ·rw [if_pos c12] at H
         have LMc12 := Aside0.mk c12
         clear c12
         obtain ⟨y295, hy295⟩ : ∃ y_ : List (List Int), y_ = (x6_1 ++ [y292]) := ⟨_, rfl⟩
         replace H : (spec_l10Expansion.l0 k1 l0 a1 y286 y295 (wrap64 (x7_1 + 1))) = some r := by first | (rw [hy295]; with_reducible exact H) | (have H2_ := (Option.bind_some _ _).symm.trans H; rw [hy295]; with_reducible exact H2_) | (have H2_ := (Option.bind_some _ _).symm.trans H; with_reducible exact H2_) | with_reducible exact H | (rw [hy295]; exact H) | exact H
         have Ny295 := Aside0.mk hy295
         clear hy295
         have H' := Aside0.mk H
         clear H
         go_wp2_with (first | ((with_reducible refine gate_dst (N := 23) rfl ?_); refine Kd.R_make (Kd.int .i64) _ 2 rfl (N := 23) rfl 22 _ _ rfl a1 rfl rfl Try.underlying22 (.int .i64 0) 8 info2 rfl (by decide) (by omega) 0 (ok := fun _ => True) (okp := fun _ => True) rfl (fun _ hk => hk) trivial (of_decide_eq_true as_) (Nat.le_trans (Nat.mul_le_mul_right _ (of_decide_eq_true as_ : a1.toNat ≤ 35184372088832)) (by omega)) (Below.refl _ _) (Nat.le_refl _) ?_; intro v293 w13 ho14 hb hg_ hnew_; clear hg_ hnew_; (first | rw [← Ny292.out] at ho14 | (simp only [Int.reduceToNat] at ho14; rw [← Ny292.out] at ho14)); have n0_ := Aside0.mk (Kd.R_elder' (by (with_reducible repeat (first | apply Kd.R_alloc | apply Kd.R_drewN | apply Kd.R_drew)); exact HO_5.out) (Kd.R_base ho14) hb); have n1_ := Aside0.mk (Kd.S_elder' (by (with_reducible repeat (first | apply Kd.S_alloc | apply Kd.S_drewN | apply Kd.S_drew)); exact HO_6.out) (Kd.R_base ho14) hb); have n2_ := Aside0.mk (Kd.R_lower (Kd.R_new' ho14 (Kd.R_lt (by (with_reducible repeat (first | apply Kd.R_alloc | apply Kd.R_drewN | apply Kd.R_drew)); exact HO_5.out))) (below_size hB_)); have n3_ := Aside0.mk (below_step hB_ hb); clear HO_5; clear HO_6; clear HB; have HO_5 := n0_; have HO_6 := n1_; have HO294 := n2_; have HB := n3_; clear n0_ n1_ n2_ n3_; clear hb ho14; obtain ⟨Ao16, co16, eo16⟩ := Kd.R_slice HO294.out; subst eo16) | ((with_reducible refine gate_builtin (b := .append) (xs := #[.tmp 21, .tmp 24]) rfl ?_); at_builtin; refine Kd.S_append (Kd.slice 2 (Kd.int .i64)) (w0 := w) w.heap.size rfl (.tmp 21) (.tmp 24) 35 22 (.slice none 0 0) 24 rfl Try.underlying35 info22 rfl (by decide) (by omega) u6 x6_1 y292 [.slice Ao16 y292.length co16] (fun k_ => some k_ ≠ (v287 : Value).ownBlock) (fun k_ => some k_ = (.slice Ao16 y292.length co16 : Value).ownBlock) rfl rfl ?aP (fun k_ hk_ => ((Kd.R_mono (ok' := fun k_ => ((fun k_ => some k_ ≠ (v287 : Value).ownBlock)) k_ ∧ some k_ ≠ (u6 : Value).ownBlock) (Kd.R_apart' (HO294.out) (Kd.S_typed HO_6.out) (by decide)) (fun k_ hk => ⟨hk.1.2, hk.2⟩))).1 k_ hk_.symm) ?aF ?aO ?aB ?aS ?aL ?_; (case aP => exact Kd.M_row (Kd.R_mono (Kd.R_tight rfl (Kd.R_mono (ok' := fun k_ => ((fun k_ => some k_ ≠ (v287 : Value).ownBlock)) k_ ∧ some k_ ≠ (u6 : Value).ownBlock) (Kd.R_apart' (HO294.out) (Kd.S_typed HO_6.out) (by decide)) (fun k_ hk => ⟨hk.1.2, hk.2⟩))) (fun _ h_ => h_))); (case aB => exact hB_); (case aF => exact (fun k_ hk => Kd.fresh' (Kd.R_lt (by (with_reducible repeat (first | apply Kd.R_alloc | apply Kd.R_drewN | apply Kd.R_drew)); exact HO_5.out)) k_ hk)); (case aO => exact (by (with_reducible repeat (first | apply Kd.S_alloc | apply Kd.S_drewN | apply Kd.S_drew)); exact Kd.S_mono HO_6.out (fun k_ hk => ⟨hk.1, fun e_ => hk.2 e_⟩))); (case aS => exact (below_size hB_)); (case aL => have := LMc12.out; omega); intro v296 w15 ho hb hg hat; rw [← Ny295.out] at ho; have n0_ := Aside0.mk (Kd.R_over' (by (with_reducible repeat (first | apply Kd.R_alloc | apply Kd.R_drewN | apply Kd.R_drew)); exact HO_5.out) (Kd.S_typed (by (with_reducible repeat (first | apply Kd.S_alloc | apply Kd.S_drewN | apply Kd.S_drew)); exact HO_6.out)) (by decide) hg); have n1_ := Aside0.mk (hb); have n2_ := Aside0.mk (ho); clear HO_5; clear HB; clear HO_6; clear HO294; have HO_5 := n0_; have HB := n1_; have HO297 := n2_; clear n0_ n1_ n2_; clear ho hb hg hat))
         go_roundg k1
         case measure => have := HK1.out; omega
         case rel => exact ⟨(y295), (wrap64 (x7_1 + 1)), (by first | rfl | (simp; done) | (simp [*]; done)), H', ⟨by have := HK1.out; omega⟩, ⟨by (with_reducible repeat (first | apply Kd.R_alloc | apply Kd.R_drewN | apply Kd.R_drew)); exact Kd.R_mono HO_5.out (fun _ hk => trivial)⟩, ⟨by (with_reducible repeat (first | apply Kd.S_alloc | apply Kd.S_drewN | apply Kd.S_drew)); exact HO297.out⟩, ⟨by repeat (first | (with_reducible first | exact HB.out | apply below_alloc | apply pw_below_drewN | apply below_drew1) | exact HB.out)⟩⟩
        ·rw [if_neg c12] at H
         exact absurd H (by simp)
       ·rw [if_neg c11] at H
        exact absurd H (by simp)
      ·rw [if_neg c10] at H
       exact absurd H (by simp)
     ·rw [if_neg c9] at H
      have c9b0 : decide (x7_1 < a1) = false := decide_eq_false c9
      clear c9
      have H' := Aside0.mk H
      clear H
      go_wp2
      go_loopg [8] k1 (fun kq v8 w' => ∃ (x5_2 : List Int) (x6_2 : List (List Int)) (x8_2 : Int), v8 = .int .i64 x8_2 ∧ Aside0 (spec_l10Expansion.l1 kq l0 a1 x5_2 x6_2 x8_2 = some r) ∧ Aside0 (kq ≤ k1) ∧ Aside0 (Kd.R (Kd.int .i64) 2 w' w.heap.size (fun _ => True) v287 x5_2) ∧ Aside0 (Kd.S (Kd.slice 2 (Kd.int .i64)) 22 w' w.heap.size (fun k_ => some k_ ≠ (v287 : Value).ownBlock) u6 x6_2) ∧ Aside0 (Below w.heap.size w w'))
      case atStart => exact ⟨(y286), (x6_1), (0), (by first | rfl | (simp; done) | (simp [*]; done)), H', ⟨Nat.le_refl _⟩, ⟨by (with_reducible repeat (first | apply Kd.R_alloc | apply Kd.R_drewN | apply Kd.R_drew)); exact HO_5.out⟩, ⟨by (with_reducible repeat (first | apply Kd.S_alloc | apply Kd.S_drewN | apply Kd.S_drew)); exact HO_6.out⟩, ⟨by repeat (first | (with_reducible first | exact HB.out | apply below_alloc | apply pw_below_drewN | apply below_drew1) | exact HB.out)⟩⟩
      case round =>
       clear H'
       try clear c1
       try clear p2
       try clear c3
       try clear c3b0
       try clear c3b1
       try clear c4
       try clear c4b0
       try clear c4b1
       try clear c6
       try clear p6
       try clear c9
       try clear c9b0
       try clear c10
       try clear c10b0
       try clear c10b1
       try clear c11
       try clear c11b0
       try clear c11b1
       try clear c12
       try clear p2
       obtain ⟨x5_2, x6_2, x8_2, rfl, HA, HK2, HO_5, HO_6, HB⟩ := hrel
       cases gk with
       | zero => exact absurd HA.out (by simp [spec_l10Expansion.l1])
       | succ k2 =>
        have H := HA.out
        clear HA
        simp only [spec_l10Expansion.l1] at H
        by_cases c17 : x8_2 < (l0.length : Int)
        ·rw [if_pos c17] at H
         have c17b0 : decide (x8_2 < (l0.length : Int)) = true := decide_eq_true c17
         clear c17
         by_cases c18 : 0 ≤ x8_2
         ·rw [if_pos c18] at H
          have c18b0 : decide (0 ≤ x8_2) = true := decide_eq_true c18
          clear c18
          obtain ⟨ji19, hji19⟩ : ∃ j_ : Int, (mx (rd l0 x8_2) (wrap64 (-(rd l0 x8_2)))) = j_ := ⟨_, rfl⟩
          replace H : (if (rd l0 x8_2) < 0 then (spec_l10Expansion.j2 k2 l0 a1 x5_2 x6_2 x8_2 (wrap64 ((ji19) - 1)) (-1)) else (spec_l10Expansion.j2 k2 l0 a1 x5_2 x6_2 x8_2 (wrap64 ((ji19) - 1)) 1)) = some r := by first | (rw [hji19] at H; exact H) | (simp only [hji19] at H ⊢; exact H)
          have hji19_ : (if (rd l0 x8_2) < (wrap64 (-(rd l0 x8_2))) then (wrap64 (-(rd l0 x8_2))) else (rd l0 x8_2)) = ji19 := hji19
          have HC20 := Aside0.mk H
          clear H
          try go_wp2
          have n0_ := Aside0.mk (Kd.R_drew HO_5.out)
          have n1_ := Aside0.mk (Kd.S_drew HO_6.out)
          have n2_ := Aside0.mk (below_drew1 HB.out)
          clear HO_5
          clear HO_6
          clear HB
          have HO_5 := n0_
          have HO_6 := n1_
          have HB := n2_
          clear n0_ n1_ n2_
          have p298 : 0 ≤ (x8_2 : Int) := of_decide_eq_true as_
          have q298 : x8_2 < (l0.length : Int) := of_decide_eq_true as_
          obtain ⟨ad298, e298, hx298_0⟩ := Kd.at_int HR0.out x8_2 p298 q298
          have hw298_0 := hx298_0
          cases e298
          replace hx298_0 := (HB.out.cell (World.block_lt_of_cell? w _ hx298_0)).trans hx298_0
          replace p298 := eq_true p298
          replace q298 := eq_true q298
          have p299 : 0 ≤ (x8_2 : Int) := of_decide_eq_true as_
          have q299 : x8_2 < (l0.length : Int) := of_decide_eq_true as_
          obtain ⟨ad299, e299, hx299_0⟩ := Kd.at_int HR0.out x8_2 p299 q299
          have hw299_0 := hx299_0
          obtain rfl : ad298 = ad299 := (by injection e299)
          replace hx299_0 := (HB.out.cell (World.block_lt_of_cell? w _ hx299_0)).trans hx299_0
          replace p299 := eq_true p299
          replace q299 := eq_true q299
          refine start_ (n := 13) (S := fun w' => w'.cell? (ad298.add (x8_2).toNat) = some (.int .i64 (rd l0 x8_2)) ∧ w'.cell? (ad298.add (x8_2).toNat) = some (.int .i64 (rd l0 x8_2))) (ds := []) #[false, false, false, false, false, false, false, false, false, false, false, false, false] (by kernel_rfl) rfl rfl ⟨((HB.out.cell (World.block_lt_of_cell? w _ hw298_0)).trans hw298_0), ((HB.out.cell (World.block_lt_of_cell? w _ hw299_0)).trans hw299_0)⟩ (fun hHeld => ?_); refine with_tabW spec_l10Expansion.tab9 spec_l10Expansion.bits9 (fun HT_ HW_ => ?_)
          generalize wr.drew = w21 at HO_5 HO_6 HB hx298_0 hx299_0 hHeld ⊢
          refine pure_ (i := 0) (N := some 32) (v := ?_) (a' := ?_) #[true, false, false, false, false, false, false, false, false, false, false, false, false] rfl rfl (any_of HT_.out (by kernel_rfl)) (fun _ _ _ h => h) (Or.inl ⟨by rfl, ?_⟩) ?_ ?_
          rotate_left
          ·intro w'
           go_simp
           with_reducible rfl
          rotate_left
          ·simp only [Act.put, List.setIfInBounds_toArray, List.set_cons_zero, List.set_cons_succ, i64_w, i32_w]
           rfl
          refine pure_ (i := 1) (N := some 33) (v := ?_) (a' := ?_) #[true, true, false, false, false, false, false, false, false, false, false, false, false] rfl rfl (any_of HT_.out (by kernel_rfl)) (fun _ _ _ h => h) (Or.inl ⟨by rfl, ?_⟩) ?_ ?_
          rotate_left
          ·intro w'
           go_simp
           with_reducible rfl
          rotate_left
          ·simp only [Act.put, List.setIfInBounds_toArray, List.set_cons_zero, List.set_cons_succ, i64_w, i32_w]
           rfl
          refine pure_ (i := 2) (N := some 34) (v := ?_) (a' := ?_) #[true, true, true, false, false, false, false, false, false, false, false, false, false] rfl rfl (any_of HT_.out (by kernel_rfl)) (fun _ _ _ h => h) (Or.inl ⟨by rfl, ?_⟩) ?_ ?_
          rotate_left
          ·intro w'
           go_simp
           with_reducible rfl
          rotate_left
          ·simp only [Act.put, List.setIfInBounds_toArray, List.set_cons_zero, List.set_cons_succ, i64_w, i32_w]
           rfl
          refine pure_ (i := 4) (N := some 36) (v := ?_) (a' := ?_) #[true, true, true, false, true, false, false, false, false, false, false, false, false] rfl rfl (any_of HT_.out (by kernel_rfl)) (fun _ _ _ h => h) (Or.inl ⟨by rfl, ?_⟩) ?_ ?_
          rotate_left
          ·intro w'
           go_simp
           with_reducible rfl
          rotate_left
          ·simp only [Act.put, List.setIfInBounds_toArray, List.set_cons_zero, List.set_cons_succ, i64_w, i32_w]
           rfl
          refine pure_ (i := 5) (N := some 37) (v := ?_) (a' := ?_) #[true, true, true, false, true, true, false, false, false, false, false, false, false] rfl rfl (any_of HT_.out (by kernel_rfl)) (fun _ _ _ h => h) (Or.inl ⟨by rfl, ?_⟩) ?_ ?_
          rotate_left
          ·intro w'
           go_simp
           with_reducible rfl
          rotate_left
          ·simp only [Act.put, List.setIfInBounds_toArray, List.set_cons_zero, List.set_cons_succ, i64_w, i32_w]
           rfl
          refine pure_ (i := 6) (N := some 38) (v := ?_) (a' := ?_) #[true, true, true, false, true, true, true, false, false, false, false, false, false] rfl rfl (any_of HT_.out (by kernel_rfl)) (fun _ _ _ h => h) (Or.inl ⟨by rfl, ?_⟩) ?_ ?_
          rotate_left
          ·intro w'
           go_simp
           with_reducible rfl
          rotate_left
          ·simp only [Act.put, List.setIfInBounds_toArray, List.set_cons_zero, List.set_cons_succ, i64_w, i32_w]
           rfl
          refine take_ (i := 3) (N := some 35) (v := ?_) (a' := ?_) #[true, true, true, true, true, true, true, false, false, false, false, false, false] rfl rfl (take_ofW HT_.out HW_.out (by kernel_rfl)) (fun _ _ _ h => h) (Or.inl ⟨by rfl, ?_⟩) hHeld ?_ ?_
          rotate_left
          ·rintro w' ⟨s0, s1⟩
           go_simp
           with_reducible rfl
          rotate_left
          ·simp only [Act.put, List.setIfInBounds_toArray, List.set_cons_zero, List.set_cons_succ, i64_w, i32_w]
           rfl
          refine take_ (i := 7) (N := some 39) (v := ?_) (a' := ?_) #[true, true, true, true, true, true, true, true, false, false, false, false, false] rfl rfl (take_ofW HT_.out HW_.out (by kernel_rfl)) (fun _ _ _ h => h) (Or.inl ⟨by rfl, ?_⟩) hHeld ?_ ?_
          rotate_left
          ·rintro w' ⟨s0, s1⟩
           go_simp
           with_reducible rfl
          rotate_left
          ·simp only [Act.put, List.setIfInBounds_toArray, List.set_cons_zero, List.set_cons_succ, i64_w, i32_w]
           rfl
          refine pure_ (i := 8) (N := some 40) (v := ?_) (a' := ?_) #[true, true, true, true, true, true, true, true, true, false, false, false, false] rfl rfl (any_of HT_.out (by kernel_rfl)) (fun _ _ _ h => h) (Or.inl ⟨by rfl, ?_⟩) ?_ ?_
          rotate_left
          ·intro w'
           go_simp
           with_reducible rfl
          rotate_left
          ·simp only [Act.put, List.setIfInBounds_toArray, List.set_cons_zero, List.set_cons_succ, i64_w, i32_w]
           rfl
          refine pure_ (i := 9) (N := some 41) (v := ?_) (a' := ?_) #[true, true, true, true, true, true, true, true, true, true, false, false, false] rfl rfl (any_of HT_.out (by kernel_rfl)) (fun _ _ _ h => h) (Or.inl ⟨by rfl, ?_⟩) ?_ ?_
          rotate_left
          ·intro w'
           go_simp
           with_reducible rfl
          rotate_left
          ·simp only [Act.put, List.setIfInBounds_toArray, List.set_cons_zero, List.set_cons_succ, i64_w, i32_w]
           rfl
          refine pure_ (i := 10) (N := some 42) (v := ?_) (a' := ?_) #[true, true, true, true, true, true, true, true, true, true, true, false, false] rfl rfl (any_of HT_.out (by kernel_rfl)) (fun _ _ _ h => h) (Or.inl ⟨by rfl, ?_⟩) ?_ ?_
          rotate_left
          ·intro w'
           go_simp
           with_reducible rfl
          rotate_left
          ·simp only [Act.put, List.setIfInBounds_toArray, List.set_cons_zero, List.set_cons_succ, i64_w, i32_w]
           rfl
          refine pure_ (i := 11) (N := some 9) (v := ?_) (a' := ?_) #[true, true, true, true, true, true, true, true, true, true, true, true, false] rfl rfl (any_of HT_.out (by kernel_rfl)) (fun _ _ _ h => h) (Or.inl ⟨by rfl, ?_⟩) ?_ ?_
          rotate_left
          ·intro w'
           go_simp
           with_reducible rfl
          rotate_left
          ·simp only [Act.put, List.setIfInBounds_toArray, List.set_cons_zero, List.set_cons_succ, i64_w, i32_w]
           rfl
          refine pure_ (i := 12) (N := some 10) (v := ?_) (a' := ?_) #[true, true, true, true, true, true, true, true, true, true, true, true, true] rfl rfl (any_of HT_.out (by kernel_rfl)) (fun _ _ _ h => h) (Or.inl ⟨by rfl, ?_⟩) ?_ ?_
          rotate_left
          ·intro w'
           go_simp
           with_reducible rfl
          rotate_left
          ·simp only [Act.put, List.setIfInBounds_toArray, List.set_cons_zero, List.set_cons_succ, i64_w, i32_w]
           rfl
          refine done_ (done_of HT_.out (by kernel_rfl)) ?_
          have p300 : 0 ≤ (x8_2 : Int) := of_decide_eq_true as_
          have q300 : x8_2 < (l0.length : Int) := of_decide_eq_true as_
          obtain ⟨ad300, e300, hx300_0⟩ := Kd.at_int HR0.out x8_2 p300 q300
          obtain rfl : ad298 = ad300 := (by injection e300)
          replace hx300_0 := (HB.out.cell (World.block_lt_of_cell? w _ hx300_0)).trans hx300_0
          replace p300 := eq_true p300
          replace q300 := eq_true q300
          go_upto_if 47 with (fail)
          go_cut [10] (fun v10 wc => ∃ (kq : Nat) (x10_19 : Int), v10 = .int .i64 x10_19 ∧ Aside0 (spec_l10Expansion.j2 kq l0 a1 x5_2 x6_2 x8_2 (wrap64 ((ji19) - 1)) x10_19 = some r) ∧ Aside0 (kq ≤ k2) ∧ Aside0 (Kd.R (Kd.int .i64) 2 wc w.heap.size (fun _ => True) v287 x5_2) ∧ Aside0 (Kd.S (Kd.slice 2 (Kd.int .i64)) 22 wc w.heap.size (fun k_ => some k_ ≠ (v287 : Value).ownBlock) u6 x6_2) ∧ Aside0 (Below w.heap.size w wc))
          case first =>
           have H := HC20.out
           clear HC20
           by_cases c22 : (rd l0 x8_2) < 0
           ·rw [if_pos c22] at H
            have c22b0 : decide ((rd l0 x8_2) < 0) = true := decide_eq_true c22
            clear c22
            (first | rw [c22b0] | (simp only [i64_w, i32_w]; rw [c22b0]) | skip)
            have H' := Aside0.mk H
            clear H
            go_wp2
            go_meet
            case rel => exact ⟨_, ((-1)), (by first | rfl | (simp; done) | (simp [*]; done)), H', ⟨by have := HK1.out; have := HK2.out; first | omega | exact Nat.le_refl _⟩, ⟨by (with_reducible repeat (first | apply Kd.R_alloc | apply Kd.R_drewN | apply Kd.R_drew)); exact HO_5.out⟩, ⟨by (with_reducible repeat (first | apply Kd.S_alloc | apply Kd.S_drewN | apply Kd.S_drew)); exact HO_6.out⟩, ⟨by repeat (first | (with_reducible first | exact HB.out | apply below_alloc | apply pw_below_drewN | apply below_drew1) | exact HB.out)⟩⟩
           ·rw [if_neg c22] at H
            have c22b0 : decide ((rd l0 x8_2) < 0) = false := decide_eq_false c22
            clear c22
            (first | rw [c22b0] | (simp only [i64_w, i32_w]; rw [c22b0]) | skip)
            have H' := Aside0.mk H
            clear H
            go_wp2
            go_meet
            case rel => exact ⟨_, (1), (by first | rfl | (simp; done) | (simp [*]; done)), H', ⟨by have := HK1.out; have := HK2.out; first | omega | exact Nat.le_refl _⟩, ⟨by (with_reducible repeat (first | apply Kd.R_alloc | apply Kd.R_drewN | apply Kd.R_drew)); exact HO_5.out⟩, ⟨by (with_reducible repeat (first | apply Kd.S_alloc | apply Kd.S_drewN | apply Kd.S_drew)); exact HO_6.out⟩, ⟨by repeat (first | (with_reducible first | exact HB.out | apply below_alloc | apply pw_below_drewN | apply below_drew1) | exact HB.out)⟩⟩
          case rest =>
           clear HC20
           try clear c1
           try clear c2
           try clear p2
           try clear q2
           try clear hx2
           try clear c3
           try clear c3b0
           try clear c3b1
           try clear p3
           try clear q3
           try clear hx3
           try clear c4
           try clear c4b0
           try clear c4b1
           try clear c6
           try clear p6
           try clear c9
           try clear c9b0
           try clear c10
           try clear c10b0
           try clear c10b1
           try clear c11
           try clear c11b0
           try clear c11b1
           try clear c12
           try clear c17
           try clear c17b0
           try clear c18
           try clear c18b0
           try clear c22
           try clear c22b0
           try clear hx298_0
           try clear hx299_0
           try clear hx300_0
           try clear p2
           try clear p298
           try clear p299
           try clear p300
           try clear p6
           try clear q298
           try clear q299
           try clear q300
           obtain ⟨kq, x10_19, rfl, HA, HJ19, HO_5, HO_6, HB⟩ := hcut
           generalize wrap64 (ji19 - 1) = ji26 at HA ⊢
           cases kq with
           | zero => exact absurd HA.out (by simp [spec_l10Expansion.j2])
           | succ kj19 =>
            have H := HA.out
            clear HA
            simp only [spec_l10Expansion.j2] at H
            have H' := Aside0.mk H
            clear H
            go_wp2
            go_loopg [11] kj19 (fun kq v11 w' => ∃ (x5_4 : List Int) (x6_4 : List (List Int)) (x11_4 : Int), v11 = .int .i64 x11_4 ∧ Aside0 (spec_l10Expansion.l2 kq l0 a1 x5_4 x6_4 x8_2 (ji26) x10_19 x11_4 = some r) ∧ Aside0 (kq ≤ kj19) ∧ Aside0 (Kd.R (Kd.int .i64) 2 w' w.heap.size (fun _ => True) v287 x5_4) ∧ Aside0 (Kd.S (Kd.slice 2 (Kd.int .i64)) 22 w' w.heap.size (fun k_ => some k_ ≠ (v287 : Value).ownBlock) u6 x6_4) ∧ Aside0 (Below w.heap.size w w'))
            case atStart => exact ⟨(x5_2), (x6_2), (0), (by first | rfl | (simp; done) | (simp [*]; done)), H', ⟨Nat.le_refl _⟩, ⟨by (with_reducible repeat (first | apply Kd.R_alloc | apply Kd.R_drewN | apply Kd.R_drew)); exact HO_5.out⟩, ⟨by (with_reducible repeat (first | apply Kd.S_alloc | apply Kd.S_drewN | apply Kd.S_drew)); exact HO_6.out⟩, ⟨by repeat (first | (with_reducible first | exact HB.out | apply below_alloc | apply pw_below_drewN | apply below_drew1) | exact HB.out)⟩⟩
            case round =>
             clear H'
             try clear c1
             try clear c2
             try clear p2
             try clear q2
             try clear hx2
             try clear c3
             try clear c3b0
             try clear c3b1
             try clear p3
             try clear q3
             try clear hx3
             try clear c4
             try clear c4b0
             try clear c4b1
             try clear c6
             try clear p6
             try clear c9
             try clear c9b0
             try clear c10
             try clear c10b0
             try clear c10b1
             try clear c11
             try clear c11b0
             try clear c11b1
             try clear c12
             try clear c17
             try clear c17b0
             try clear c18
             try clear c18b0
             try clear c22
             try clear c22b0
             try clear hx298_0
             try clear hx299_0
             try clear hx300_0
             try clear p2
             try clear p298
             try clear p299
             try clear p3
             try clear p300
             try clear p6
             try clear q2
             try clear q298
             try clear q299
             try clear q3
             try clear q300
             obtain ⟨x5_4, x6_4, x11_4, rfl, HA, HK4, HO_5, HO_6, HB⟩ := hrel
             cases gk with
             | zero => exact absurd HA.out (by simp [spec_l10Expansion.l2])
             | succ k4 =>
              have H := HA.out
              clear HA
              simp only [spec_l10Expansion.l2] at H
              by_cases c23 : x11_4 < a1
              ·rw [if_pos c23] at H
               have c23b0 : decide (x11_4 < a1) = true := decide_eq_true c23
               clear c23
               by_cases c24 : 0 ≤ x11_4
               ·rw [if_pos c24] at H
                have c24b0 : decide (0 ≤ x11_4) = true := decide_eq_true c24
                clear c24
                by_cases c25 : x11_4 < (x6_4.length : Int)
                ·rw [if_pos c25] at H
                 have c25b0 : decide (x11_4 < (x6_4.length : Int)) = true := decide_eq_true c25
                 clear c25
                 by_cases c27 : 0 ≤ (ji26)
                 ·rw [if_pos c27] at H
                  have c27b0 : decide (0 ≤ (ji26)) = true := decide_eq_true c27
                  clear c27
                  by_cases c28 : (ji26) < ((rd_L1 x6_4 x11_4).length : Int)
                  ·rw [if_pos c28] at H
                   have c28b0 : decide ((ji26) < ((rd_L1 x6_4 x11_4).length : Int)) = true := decide_eq_true c28
                   clear c28
                   by_cases c29 : x11_4 < (x5_4.length : Int)
                   ·rw [if_pos c29] at H
                    have c29b0 : decide (x11_4 < (x5_4.length : Int)) = true := decide_eq_true c29
                    clear c29
                    obtain ⟨y304, hy304⟩ : ∃ y_ : List Int, y_ = ((rd_L1 x6_4 x11_4).set ((ji26) : Int).toNat (wrap64 ((rd (rd_L1 x6_4 x11_4) (ji26)) + (wrap64 (x10_19 * (rd x5_4 x11_4)))))) := ⟨_, rfl⟩
                    replace H : ((some (x6_4.set (x11_4 : Int).toNat y304 : List (List Int))).bind fun y306 => (if x11_4 = (ji26) then (if x10_19 < 0 then (if (ji26) < ((rd_L1 y306 x11_4).length : Int) then (spec_l10Expansion.l2 k4 l0 a1 x5_4 (y306.set (x11_4 : Int).toNat ((rd_L1 y306 x11_4).set ((ji26) : Int).toNat (wrap64 ((rd (rd_L1 y306 x11_4) (ji26)) + 1)))) x8_2 (ji26) x10_19 (wrap64 (x11_4 + 1))) else (none)) else (spec_l10Expansion.l2 k4 l0 a1 x5_4 y306 x8_2 (ji26) x10_19 (wrap64 (x11_4 + 1)))) else (spec_l10Expansion.l2 k4 l0 a1 x5_4 y306 x8_2 (ji26) x10_19 (wrap64 (x11_4 + 1))))) = some r := by first | (rw [hy304]; with_reducible exact H) | (have H2_ := (Option.bind_some _ _).symm.trans H; rw [hy304]; with_reducible exact H2_) | (have H2_ := (Option.bind_some _ _).symm.trans H; with_reducible exact H2_) | with_reducible exact H | (rw [hy304]; exact H) | exact H
                    have Ny304 := Aside0.mk hy304
                    clear hy304
                    obtain ⟨y306, hy306⟩ : ∃ y_ : List (List Int), y_ = (x6_4.set (x11_4 : Int).toNat y304) := ⟨_, rfl⟩
                    replace H : (if x11_4 = (ji26) then (if x10_19 < 0 then (if (ji26) < ((rd_L1 y306 x11_4).length : Int) then (spec_l10Expansion.l2 k4 l0 a1 x5_4 (y306.set (x11_4 : Int).toNat ((rd_L1 y306 x11_4).set ((ji26) : Int).toNat (wrap64 ((rd (rd_L1 y306 x11_4) (ji26)) + 1)))) x8_2 (ji26) x10_19 (wrap64 (x11_4 + 1))) else (none)) else (spec_l10Expansion.l2 k4 l0 a1 x5_4 y306 x8_2 (ji26) x10_19 (wrap64 (x11_4 + 1)))) else (spec_l10Expansion.l2 k4 l0 a1 x5_4 y306 x8_2 (ji26) x10_19 (wrap64 (x11_4 + 1)))) = some r := by first | (rw [hy306]; with_reducible exact H) | (have H2_ := (Option.bind_some _ _).symm.trans H; rw [hy306]; with_reducible exact H2_) | (have H2_ := (Option.bind_some _ _).symm.trans H; with_reducible exact H2_) | with_reducible exact H | (rw [hy306]; exact H) | exact H
                    have Ny306 := Aside0.mk hy306
                    clear hy306
                    by_cases c31 : x11_4 = (ji26)
                    ·rw [if_pos c31] at H
                     have c31b0 : (x11_4 == (ji26)) = true := beq_iff_eq.mpr c31
                     have c31b1 : (x11_4 != (ji26)) = false := bne_eq_false_iff_eq.mpr c31
                     clear c31
                     by_cases c32 : x10_19 < 0
                     ·rw [if_pos c32] at H
                      have c32b0 : decide (x10_19 < 0) = true := decide_eq_true c32
                      clear c32
                      by_cases c33 : (ji26) < ((rd_L1 y306 x11_4).length : Int)
                      ·rw [if_pos c33] at H
                       have c33b0 : decide ((ji26) < ((rd_L1 y306 x11_4).length : Int)) = true := decide_eq_true c33
                       clear c33
                       obtain ⟨y309, hy309⟩ : ∃ y_ : List Int, y_ = ((rd_L1 y306 x11_4).set ((ji26) : Int).toNat (wrap64 ((rd (rd_L1 y306 x11_4) (ji26)) + 1))) := ⟨_, rfl⟩
                       replace H : (spec_l10Expansion.l2 k4 l0 a1 x5_4 (y306.set (x11_4 : Int).toNat y309) x8_2 (ji26) x10_19 (wrap64 (x11_4 + 1))) = some r := by first | (rw [hy309]; with_reducible exact H) | (have H2_ := (Option.bind_some _ _).symm.trans H; rw [hy309]; with_reducible exact H2_) | (have H2_ := (Option.bind_some _ _).symm.trans H; with_reducible exact H2_) | with_reducible exact H | (rw [hy309]; exact H) | exact H
                       have Ny309 := Aside0.mk hy309
                       clear hy309
                       obtain ⟨y311, hy311⟩ : ∃ y_ : List (List Int), y_ = (y306.set (x11_4 : Int).toNat y309) := ⟨_, rfl⟩
                       replace H : (spec_l10Expansion.l2 k4 l0 a1 x5_4 y311 x8_2 (ji26) x10_19 (wrap64 (x11_4 + 1))) = some r := by first | (rw [hy311]; with_reducible exact H) | (have H2_ := (Option.bind_some _ _).symm.trans H; rw [hy311]; with_reducible exact H2_) | (have H2_ := (Option.bind_some _ _).symm.trans H; with_reducible exact H2_) | with_reducible exact H | (rw [hy311]; exact H) | exact H
                       have Ny311 := Aside0.mk hy311
                       clear hy311
                       have H' := Aside0.mk H
                       clear H
                       obtain ⟨Ao35, co35, eo35⟩ := Kd.S_slice HO_6.out
                       subst eo35
                       have p301 : 0 ≤ (x11_4 : Int) := of_decide_eq_true as_
                       have q301 : x11_4 < (x6_4.length : Int) := of_decide_eq_true as_
                       obtain ⟨ad301, A301_0, c301_0, e301, hx301_0, hl301_0, hi301_0⟩ := at_L1 (Kd.S_reads' HO_6.out).2.2 x11_4 p301 q301
                       cases e301
                       obtain ⟨ce301, hce301, hMe301, hcc301⟩ := Kd.S_get HO_6.out [] x11_4 p301 (by first | exact q301 | exact of_decide_eq_true as_ | (have e_ := (Kd.S_reads' HO_6.out).1; omega))
                       obtain ⟨ve301_0, rfl, ge301_0⟩ := hMe301
                       have hv301_0 := hcc301 0 _ rfl
                       rw [Nat.add_zero, show ((Kd.slice 2 (Kd.int .i64))).sz = 1 from rfl, Nat.mul_one] at hv301_0
                       replace hv301_0 := Option.some.inj (hv301_0.symm.trans hx301_0)
                       rw [hv301_0] at ge301_0
                       have HL301_0 := Aside0.mk (show Kd.R (Kd.int .i64) 2 _ _ _ _ (rd_L1 x6_4 x11_4) from ge301_0)
                       clear hv301_0 ge301_0
                       have HX301_0 := Aside0.mk hx301_0
                       clear hcc301 hce301
                       have HR301_0 := Aside0.mk hi301_0
                       have HC301_0 := Aside0.mk hl301_0
                       clear hi301_0 hl301_0
                       replace p301 := eq_true p301
                       replace q301 := eq_true q301
                       try go_wp2
                       have n0_ := Aside0.mk (cellD HX301_0.out)
                       have n1_ := Aside0.mk (Kd.R_drew HO_5.out)
                       have n2_ := Aside0.mk (Kd.S_drew HO_6.out)
                       have n3_ := Aside0.mk (Kd.R_drew HL301_0.out)
                       have n4_ := Aside0.mk (Kd.C_drew HR301_0.out)
                       have n5_ := Aside0.mk (below_drew1 HB.out)
                       clear HX301_0
                       clear HO_5
                       clear HO_6
                       clear HL301_0
                       clear HR301_0
                       clear HB
                       have HX301_0 := n0_
                       have HO_5 := n1_
                       have HO_6 := n2_
                       have HL301_0 := n3_
                       have HR301_0 := n4_
                       have HB := n5_
                       clear n0_ n1_ n2_ n3_ n4_ n5_
                       have p302 : 0 ≤ ((ji26) : Int) := of_decide_eq_true as_
                       have q302 : (ji26) < ((rd_L1 x6_4 x11_4).length : Int) := of_decide_eq_true as_
                       obtain ⟨ad302, e302, hx302_0⟩ := Kd.at_int (by repeat (first | (with_reducible exact HR301_0.out) | (with_reducible refine Kd.C_alloc ?_ _) | (with_reducible refine Kd.C_drewN ?_ _) | (with_reducible refine Kd.C_drew ?_) | exact HR301_0.out)) (ji26) p302 q302
                       cases e302
                       replace p302 := eq_true p302
                       replace q302 := eq_true q302
                       obtain ⟨Ao37, co37, eo37⟩ := Kd.R_slice HO_5.out
                       (first | subst eo37 | (injection eo37 with f1_ f2_ f3_; have f4_ := f1_.symm; have f5_ := f3_.symm; clear f1_ f2_ f3_; subst f4_; subst f5_))
                       have p303 : 0 ≤ (x11_4 : Int) := of_decide_eq_true as_
                       have q303 : x11_4 < (x5_4.length : Int) := of_decide_eq_true as_
                       obtain ⟨ad303, e303, hx303_0⟩ := Kd.at_int (Kd.R_reads' HO_5.out).2.2 x11_4 p303 q303
                       cases e303
                       replace p303 := eq_true p303
                       replace q303 := eq_true q303
                       have p30 : 0 ≤ ((ji26) : Int) := of_decide_eq_true as_
                       have q30 : ((ji26) : Int) < (((rd_L1 x6_4 x11_4).length : Int) : Int) := of_decide_eq_true as_
                       obtain ⟨go30, co30, eo30, gb30, gl30, cl30, HG30⟩ := Kd.R_form HL301_0.out (by omega)
                       (first | cases eo30 | (injection eo30 with ea_ en_ ec_; (first | subst ea_ | (injection ea_ with ea_; subst ea_)); subst ec_; clear en_))
                       have GB30 := Aside0.mk gb30
                       have GG30 := Aside0.mk HG30
                       clear gb30 gl30 HG30
                       (first | simp only [add_plain] at hx302_0 | skip)
                       obtain ⟨hx30_0, hf30_0⟩ := Kd.R_celln 0 HL301_0.out ((ji26) : Int) p30 q30
                       replace p30 := eq_true p30
                       replace q30 := eq_true q30
                       have hq38 : (x11_4 : Int) < (x6_4.length : Int) := (by have h_ : (x11_4 : Int) < ((x6_4.length : Int) : Int) := of_decide_eq_true as_; first | exact h_ | (have e_ := (Kd.S_reads' HO_6.out).1; omega) | simpa only [List.length_set, List.length_set] using h_)
                       obtain ⟨oki38, ce38, hcl38, hM38, hcc38, hok38, hbk38⟩ := Kd.S_borrow HO_6.out [] (x11_4 : Int) (of_decide_eq_true as_) hq38
                       obtain ⟨ve38_0, rfl, ge38_0⟩ := hM38
                       have hv38 := hcc38 0 _ rfl
                       rw [Nat.add_zero, show ((Kd.slice 2 (Kd.int .i64))).sz = 1 from rfl, Nat.mul_one] at hv38
                       replace hv38 := Option.some.inj (hv38.symm.trans HX301_0.out)
                       subst hv38
                       clear hcc38 hcl38
                       replace ge38_0 := (show Kd.R (Kd.int .i64) 2 _ _ _ _ (rd_L1 x6_4 x11_4) from ge38_0)
                       have HP38 := Kd.R_putg ge38_0 ((ji26) : Int) (wrap64 ((rd (rd_L1 x6_4 x11_4) (ji26)) + (wrap64 (x10_19 * (rd x5_4 x11_4)))))
                       rw [← Ny304.out] at HP38
                       have HS38 := hbk38 HP38.2 (fun k_ e_ => by injection e_ with e_; subst e_; exact ge38_0.1 _ rfl) (x' := y304) (Kd.M_row HP38.1)
                       rw [← Ny306.out] at HS38
                       have HQ38 := Aside0.mk HS38
                       clear HP38 HS38 hbk38 hok38
                       refine start_ (n := 15) (S := fun w' => w'.cell? ⟨go30, ((ji26)).toNat, none⟩ = some (.int .i64 (rd (rd_L1 x6_4 x11_4) (ji26))) ∧ w'.cell? (ad303.add (x11_4).toNat) = some (.int .i64 (rd x5_4 x11_4))) (ds := [14]) #[false, false, false, false, false, false, false, false, false, false, false, false, false, false, false] (by kernel_rfl) rfl rfl ⟨hx302_0, hx303_0⟩ (fun hHeld => ?_); refine with_tabW spec_l10Expansion.tab16 spec_l10Expansion.bits16 (fun HT_ HW_ => ?_)
                       generalize wr.drew = w36 at HO_5 HO_6 HL301_0 HR301_0 HX301_0 HB GG30 HQ38 hf30_0 hx302_0 hx303_0 hx30_0 hHeld ⊢
                       refine pure_ (i := 0) (N := some 57) (v := ?_) (a' := ?_) #[true, false, false, false, false, false, false, false, false, false, false, false, false, false, false] rfl rfl (any_of HT_.out (by kernel_rfl)) (fun _ _ _ h => h) (Or.inl ⟨by rfl, ?_⟩) ?_ ?_
                       rotate_left
                       ·intro w'
                        go_simp
                        with_reducible rfl
                       rotate_left
                       ·simp only [Act.put, List.setIfInBounds_toArray, List.set_cons_zero, List.set_cons_succ, i64_w, i32_w]
                        rfl
                       refine pure_ (i := 1) (N := some 58) (v := ?_) (a' := ?_) #[true, true, false, false, false, false, false, false, false, false, false, false, false, false, false] rfl rfl (any_of HT_.out (by kernel_rfl)) (fun _ _ _ h => h) (Or.inl ⟨by rfl, ?_⟩) ?_ ?_
                       rotate_left
                       ·intro w'
                        go_simp
                        with_reducible rfl
                       rotate_left
                       ·simp only [Act.put, List.setIfInBounds_toArray, List.set_cons_zero, List.set_cons_succ, i64_w, i32_w]
                        rfl
                       refine pure_ (i := 2) (N := some 59) (v := ?_) (a' := ?_) #[true, true, true, false, false, false, false, false, false, false, false, false, false, false, false] rfl rfl (any_of HT_.out (by kernel_rfl)) (fun _ _ _ h => h) (Or.inl ⟨by rfl, ?_⟩) ?_ ?_
                       rotate_left
                       ·intro w'
                        go_simp
                        with_reducible rfl
                       rotate_left
                       ·simp only [Act.put, List.setIfInBounds_toArray, List.set_cons_zero, List.set_cons_succ, i64_w, i32_w]
                        rfl
                       refine pure_ (i := 3) (N := some 60) (v := ?_) (a' := ?_) #[true, true, true, true, false, false, false, false, false, false, false, false, false, false, false] rfl rfl (any_of HT_.out (by kernel_rfl)) (fun _ _ _ h => h) (Or.inl ⟨by rfl, ?_⟩) ?_ ?_
                       rotate_left
                       ·intro w'
                        go_simp
                        with_reducible rfl
                       rotate_left
                       ·simp only [Act.put, List.setIfInBounds_toArray, List.set_cons_zero, List.set_cons_succ, i64_w, i32_w]
                        rfl
                       refine pure_ (i := 4) (N := some 61) (v := ?_) (a' := ?_) #[true, true, true, true, true, false, false, false, false, false, false, false, false, false, false] rfl rfl (any_of HT_.out (by kernel_rfl)) (fun _ _ _ h => h) (Or.inl ⟨by rfl, ?_⟩) ?_ ?_
                       rotate_left
                       ·intro w'
                        go_simp
                        with_reducible rfl
                       rotate_left
                       ·simp only [Act.put, List.setIfInBounds_toArray, List.set_cons_zero, List.set_cons_succ, i64_w, i32_w]
                        rfl
                       refine pure_ (i := 6) (N := some 63) (v := ?_) (a' := ?_) #[true, true, true, true, true, false, true, false, false, false, false, false, false, false, false] rfl rfl (any_of HT_.out (by kernel_rfl)) (fun _ _ _ h => h) (Or.inl ⟨by rfl, ?_⟩) ?_ ?_
                       rotate_left
                       ·intro w'
                        go_simp
                        with_reducible rfl
                       rotate_left
                       ·simp only [Act.put, List.setIfInBounds_toArray, List.set_cons_zero, List.set_cons_succ, i64_w, i32_w]
                        rfl
                       refine pure_ (i := 7) (N := some 64) (v := ?_) (a' := ?_) #[true, true, true, true, true, false, true, true, false, false, false, false, false, false, false] rfl rfl (any_of HT_.out (by kernel_rfl)) (fun _ _ _ h => h) (Or.inl ⟨by rfl, ?_⟩) ?_ ?_
                       rotate_left
                       ·intro w'
                        go_simp
                        with_reducible rfl
                       rotate_left
                       ·simp only [Act.put, List.setIfInBounds_toArray, List.set_cons_zero, List.set_cons_succ, i64_w, i32_w]
                        rfl
                       refine pure_ (i := 8) (N := some 65) (v := ?_) (a' := ?_) #[true, true, true, true, true, false, true, true, true, false, false, false, false, false, false] rfl rfl (any_of HT_.out (by kernel_rfl)) (fun _ _ _ h => h) (Or.inl ⟨by rfl, ?_⟩) ?_ ?_
                       rotate_left
                       ·intro w'
                        go_simp
                        with_reducible rfl
                       rotate_left
                       ·simp only [Act.put, List.setIfInBounds_toArray, List.set_cons_zero, List.set_cons_succ, i64_w, i32_w]
                        rfl
                       refine pure_ (i := 9) (N := some 66) (v := ?_) (a' := ?_) #[true, true, true, true, true, false, true, true, true, true, false, false, false, false, false] rfl rfl (any_of HT_.out (by kernel_rfl)) (fun _ _ _ h => h) (Or.inl ⟨by rfl, ?_⟩) ?_ ?_
                       rotate_left
                       ·intro w'
                        go_simp
                        with_reducible rfl
                       rotate_left
                       ·simp only [Act.put, List.setIfInBounds_toArray, List.set_cons_zero, List.set_cons_succ, i64_w, i32_w]
                        rfl
                       refine take_ (i := 5) (N := some 62) (v := ?_) (a' := ?_) #[true, true, true, true, true, true, true, true, true, true, false, false, false, false, false] rfl rfl (take_ofW HT_.out HW_.out (by kernel_rfl)) (fun _ _ _ h => h) (Or.inl ⟨by rfl, ?_⟩) hHeld ?_ ?_
                       rotate_left
                       ·rintro w' ⟨s0, s1⟩
                        go_simp
                        with_reducible rfl
                       rotate_left
                       ·simp only [Act.put, List.setIfInBounds_toArray, List.set_cons_zero, List.set_cons_succ, i64_w, i32_w]
                        rfl
                       refine take_ (i := 10) (N := some 67) (v := ?_) (a' := ?_) #[true, true, true, true, true, true, true, true, true, true, true, false, false, false, false] rfl rfl (take_ofW HT_.out HW_.out (by kernel_rfl)) (fun _ _ _ h => h) (Or.inl ⟨by rfl, ?_⟩) hHeld ?_ ?_
                       rotate_left
                       ·rintro w' ⟨s0, s1⟩
                        go_simp
                        with_reducible rfl
                       rotate_left
                       ·simp only [Act.put, List.setIfInBounds_toArray, List.set_cons_zero, List.set_cons_succ, i64_w, i32_w]
                        rfl
                       refine pure_ (i := 11) (N := some 68) (v := ?_) (a' := ?_) #[true, true, true, true, true, true, true, true, true, true, true, true, false, false, false] rfl rfl (any_of HT_.out (by kernel_rfl)) (fun _ _ _ h => h) (Or.inl ⟨by rfl, ?_⟩) ?_ ?_
                       rotate_left
                       ·intro w'
                        go_simp
                        with_reducible rfl
                       rotate_left
                       ·simp only [Act.put, List.setIfInBounds_toArray, List.set_cons_zero, List.set_cons_succ, i64_w, i32_w]
                        rfl
                       refine pure_ (i := 12) (N := some 69) (v := ?_) (a' := ?_) #[true, true, true, true, true, true, true, true, true, true, true, true, true, false, false] rfl rfl (any_of HT_.out (by kernel_rfl)) (fun _ _ _ h => h) (Or.inl ⟨by rfl, ?_⟩) ?_ ?_
                       rotate_left
                       ·intro w'
                        go_simp
                        with_reducible rfl
                       rotate_left
                       ·simp only [Act.put, List.setIfInBounds_toArray, List.set_cons_zero, List.set_cons_succ, i64_w, i32_w]
                        rfl
                       refine pure_ (i := 13) (N := some 70) (v := ?_) (a' := ?_) #[true, true, true, true, true, true, true, true, true, true, true, true, true, true, false] rfl rfl (any_of HT_.out (by kernel_rfl)) (fun _ _ _ h => h) (Or.inl ⟨by rfl, ?_⟩) ?_ ?_
                       rotate_left
                       ·intro w'
                        go_simp
                        with_reducible rfl
                       rotate_left
                       ·simp only [Act.put, List.setIfInBounds_toArray, List.set_cons_zero, List.set_cons_succ, i64_w, i32_w]
                        rfl
                       refine last_ (i := 14) (N := none) #[true, true, true, true, true, true, true, true, true, true, true, true, true, true, true] rfl rfl (one_of HT_.out (by kernel_rfl)) (by decide) (fun K hK => ?_)
                       refine skip_ (w1 := ?_) (by rfl) rfl ?_ ?_
                       rotate_left
                       ·go_simp
                        rfl
                       refine hK.out _ _ ?_
                       clear hK K
                       refine done_ (done_of HT_.out (by kernel_rfl)) ?_
                       obtain ⟨gz_, hgz_⟩ := Kd.R_head (Kd.S_R HO_6.out)
                       have hne_ : go30 ≠ gz_ := fun h_ => (HL301_0.out.1 _ rfl).2 (by rw [hgz_, h_]; rfl)
                       have n9_ := Aside0.mk ((World.cell?_setCell_far w36 ⟨go30, ((ji26) : Int).toNat, none⟩ _ (.int .i64 (wrap64 ((rd (rd_L1 x6_4 x11_4) (ji26)) + (wrap64 (x10_19 * (rd x5_4 x11_4)))))) (by rw [add_block, hgz_]; exact hne_)).trans HX301_0.out)
                       clear hne_ hgz_ gz_
                       have n0_ : Aside0 (Kd.R (Kd.int .i64) 2 (w36.setCell ⟨go30, ((ji26) : Int).toNat, none⟩ (.int .i64 (wrap64 ((rd (rd_L1 x6_4 x11_4) (ji26)) + (wrap64 (x10_19 * (rd x5_4 x11_4))))))) w.heap.size (fun _ => True) (.slice (some ad303) x5_4.length co37) x5_4) := ⟨by (with_reducible repeat (first | apply Kd.R_alloc | apply Kd.R_drewN | apply Kd.R_drew)); exact Kd.R_mono (Kd.R_far (p := ⟨go30, ((ji26) : Int).toNat, none⟩) (Kd.R_far1 HO_5.out rfl ((HL301_0.out.1 _ rfl).1)) (fun _ hk => hk.2) (.int .i64 (wrap64 ((rd (rd_L1 x6_4 x11_4) (ji26)) + (wrap64 (x10_19 * (rd x5_4 x11_4))))))) (fun _ hk => trivial)⟩
                       have n1_ : Aside0 (Kd.S (Kd.slice 2 (Kd.int .i64)) 22 (w36.setCell ⟨go30, ((ji26) : Int).toNat, none⟩ (.int .i64 (wrap64 ((rd (rd_L1 x6_4 x11_4) (ji26)) + (wrap64 (x10_19 * (rd x5_4 x11_4))))))) w.heap.size (fun k_ => some k_ ≠ (.slice (some ad303) x5_4.length co37 : Value).ownBlock) (.slice (some ad301) x6_4.length co35) y306) := ⟨by (with_reducible repeat (first | apply Kd.S_alloc | apply Kd.S_drewN | apply Kd.S_drew)); exact HQ38.out⟩
                       have n2_ : Aside0 (Below w.heap.size w (w36.setCell ⟨go30, ((ji26) : Int).toNat, none⟩ (.int .i64 (wrap64 ((rd (rd_L1 x6_4 x11_4) (ji26)) + (wrap64 (x10_19 * (rd x5_4 x11_4)))))))) := ⟨by repeat (first | (with_reducible first | exact HB.out | apply below_alloc | apply pw_below_drewN | apply below_drew1 | refine below_set ?_ GB30.out) | exact HB.out)⟩
                       (try clear HO_5)
                       (try clear HO_6)
                       (try clear HB)
                       generalize (w36.setCell ⟨go30, ((ji26) : Int).toNat, none⟩ (.int .i64 (wrap64 ((rd (rd_L1 x6_4 x11_4) (ji26)) + (wrap64 (x10_19 * (rd x5_4 x11_4))))))) = w40 at n0_ n1_ n2_ n9_ ⊢
                       have HO_5 := n0_
                       have HO_6 := n1_
                       have HB := n2_
                       clear HX301_0
                       have HX301_0 := n9_
                       clear n0_ n1_ n2_ n9_
                       have p307 : 0 ≤ (x11_4 : Int) := of_decide_eq_true as_
                       have q307 : x11_4 < (y306.length : Int) := (by have h_ : (x11_4 : Int) < ((x6_4.length : Int) : Int) := of_decide_eq_true as_; first | (have e_ := (Kd.S_reads' HO_6.out).1; omega) | simpa only [Ny306.out, List.length_set] using h_)
                       have ql307 : ((x11_4 : Int) < ((x6_4.length : Int) : Int)) = True := eq_true (of_decide_eq_true as_)
                       obtain ⟨ad307, A307_0, c307_0, e307, hx307_0, hl307_0, hi307_0⟩ := at_L1 (Kd.S_reads' HO_6.out).2.2 x11_4 p307 q307
                       obtain rfl : ad301 = ad307 := (by injection e307)
                       have hz9_ := Option.some.inj (hx307_0.symm.trans HX301_0.out)
                       injection hz9_ with az_ bz_ cz_
                       subst az_
                       subst cz_
                       clear bz_
                       obtain ⟨ce307, hce307, hMe307, hcc307⟩ := Kd.S_get HO_6.out [] x11_4 p307 (by first | exact q307 | exact of_decide_eq_true as_ | (have e_ := (Kd.S_reads' HO_6.out).1; omega))
                       obtain ⟨ve307_0, rfl, ge307_0⟩ := hMe307
                       have hv307_0 := hcc307 0 _ rfl
                       rw [Nat.add_zero, show ((Kd.slice 2 (Kd.int .i64))).sz = 1 from rfl, Nat.mul_one] at hv307_0
                       replace hv307_0 := Option.some.inj (hv307_0.symm.trans hx307_0)
                       rw [hv307_0] at ge307_0
                       have HL307_0 := Aside0.mk (show Kd.R (Kd.int .i64) 2 _ _ _ _ (rd_L1 y306 x11_4) from ge307_0)
                       clear hv307_0 ge307_0
                       have HX307_0 := Aside0.mk hx307_0
                       clear hcc307 hce307
                       have HR307_0 := Aside0.mk hi307_0
                       have HC307_0 := Aside0.mk hl307_0
                       clear hi307_0 hl307_0
                       replace p307 := eq_true p307
                       replace q307 := eq_true q307
                       have p308 : 0 ≤ ((ji26) : Int) := of_decide_eq_true as_
                       have q308 : (ji26) < ((rd_L1 y306 x11_4).length : Int) := of_decide_eq_true as_
                       obtain ⟨ad308, e308, hx308_0⟩ := Kd.at_int (by repeat (first | (with_reducible exact HR307_0.out) | (with_reducible refine Kd.C_alloc ?_ _) | (with_reducible refine Kd.C_drewN ?_ _) | (with_reducible refine Kd.C_drew ?_) | exact HR307_0.out)) (ji26) p308 q308
                       cases e308
                       replace p308 := eq_true p308
                       replace q308 := eq_true q308
                       have p34 : 0 ≤ ((ji26) : Int) := of_decide_eq_true as_
                       have q34 : ((ji26) : Int) < (((rd_L1 y306 x11_4).length : Int) : Int) := of_decide_eq_true as_
                       obtain ⟨go34, co34, eo34, gb34, gl34, cl34, HG34⟩ := Kd.R_form HL307_0.out (by omega)
                       (first | cases eo34 | (injection eo34 with ea_ en_ ec_; (first | subst ea_ | (injection ea_ with ea_; subst ea_)); subst ec_; clear en_))
                       have GB34 := Aside0.mk gb34
                       have GG34 := Aside0.mk HG34
                       clear gb34 gl34 HG34
                       (first | simp only [add_plain] at hx308_0 | skip)
                       obtain ⟨hx34_0, hf34_0⟩ := Kd.R_celln 0 HL307_0.out ((ji26) : Int) p34 q34
                       replace p34 := eq_true p34
                       replace q34 := eq_true q34
                       have hq41 : (x11_4 : Int) < (x6_4.length : Int) := (by have h_ : (x11_4 : Int) < ((x6_4.length : Int) : Int) := of_decide_eq_true as_; first | exact h_ | (have e_ := (Kd.S_reads' HO_6.out).1; omega) | simpa only [Ny306.out, List.length_set] using h_)
                       obtain ⟨oki41, ce41, hcl41, hM41, hcc41, hok41, hbk41⟩ := Kd.S_borrow HO_6.out [] (x11_4 : Int) (of_decide_eq_true as_) hq41
                       obtain ⟨ve41_0, rfl, ge41_0⟩ := hM41
                       have hv41 := hcc41 0 _ rfl
                       rw [Nat.add_zero, show ((Kd.slice 2 (Kd.int .i64))).sz = 1 from rfl, Nat.mul_one] at hv41
                       replace hv41 := Option.some.inj (hv41.symm.trans HX307_0.out)
                       subst hv41
                       clear hcc41 hcl41
                       replace ge41_0 := (show Kd.R (Kd.int .i64) 2 _ _ _ _ (rd_L1 y306 x11_4) from ge41_0)
                       have HP41 := Kd.R_putg ge41_0 ((ji26) : Int) (wrap64 ((rd (rd_L1 y306 x11_4) (ji26)) + 1))
                       try go_wp2_with (first | ((with_reducible refine gate_store (t := 2) (p := 83) rfl ?_); refine store_event (t := 2) (p := 83) (v := ?vo_w42) (w1 := (w40.setCell ⟨go30, ((ji26) : Int).toNat, none⟩ (.int .i64 (wrap64 ((rd (rd_L1 y306 x11_4) (ji26)) + 1))))) ?hg ?ho ?hn ?hr ?_; (case ho => rfl); (case hg => rfl); (case hn => rfl); (case hr => first | (go_simp; done) | (go_simp; rfl)); intro w42 hw; have hg : w40.grownBy w42 (some go30) := (by rw [hw]; exact HP41.2); have hz_ : Kd.R (Kd.int .i64) 2 w42 w.heap.size oki41 (.slice (some ⟨go30, 0, none⟩) (rd_L1 y306 x11_4).length c307_0) y309 := (by rw [hw, Ny309.out]; exact HP41.1); have hp_ : Kd.S (Kd.slice 2 (Kd.int .i64)) 22 w42 w.heap.size (fun k_ => some k_ ≠ (.slice (some ad303) x5_4.length co37 : Value).ownBlock) (.slice (some ad301) x6_4.length co35) y311 := (by rw [Ny311.out]; exact hbk41 hg (fun k_ e_ => by injection e_ with e_; subst e_; exact ge41_0.1 _ rfl) (Kd.M_row hz_)); have hm_ := Kd.R_mono hz_ hok41; clear HP41 hbk41; have n0_ := Aside0.mk (Kd.R_grown1 (by (with_reducible repeat (first | apply Kd.R_alloc | apply Kd.R_drewN | apply Kd.R_drew)); exact HO_5.out) rfl hg ((HL307_0.out.1 _ rfl).1)); have n1_ := Aside0.mk (hp_); have n2_ := Aside0.mk ((by rw [hw]; exact below_set (HB.out) GB34.out : Below w.heap.size w w42)); have n3_ := Aside0.mk (hm_); have n4_ := Aside0.mk ((Kd.R_reads' hm_).2.1); clear HO_5; clear HO_6; clear HB; clear HL307_0; have HO_5 := n0_; have HO_6 := n1_; have HB := n2_; have HL314 := n3_; have HC310 := n4_; clear n0_ n1_ n2_ n3_ n4_; clear hg hw hp_ hz_ hm_ hok41))
                       go_roundg k4
                       case measure => have := HK1.out; have := HK2.out; have := HJ19.out; have := HK4.out; omega
                       case rel => exact ⟨(x5_4), (y311), (wrap64 (x11_4 + 1)), (by first | rfl | (simp; done) | (simp [*]; done)), H', ⟨by have := HK1.out; have := HK2.out; have := HJ19.out; have := HK4.out; omega⟩, ⟨by (with_reducible repeat (first | apply Kd.R_alloc | apply Kd.R_drewN | apply Kd.R_drew)); exact HO_5.out⟩, ⟨by (with_reducible repeat (first | apply Kd.S_alloc | apply Kd.S_drewN | apply Kd.S_drew)); exact HO_6.out⟩, ⟨by repeat (first | (with_reducible first | exact HB.out | apply below_alloc | apply pw_below_drewN | apply below_drew1) | exact HB.out)⟩⟩
                      ·rw [if_neg c33] at H
                       exact absurd H (by simp)
                     ·rw [if_neg c32] at H
                      have c32b0 : decide (x10_19 < 0) = false := decide_eq_false c32
                      clear c32
                      have H' := Aside0.mk H
                      clear H
                      obtain ⟨Ao43, co43, eo43⟩ := Kd.S_slice HO_6.out
                      subst eo43
                      have p301 : 0 ≤ (x11_4 : Int) := of_decide_eq_true as_
                      have q301 : x11_4 < (x6_4.length : Int) := of_decide_eq_true as_
                      obtain ⟨ad301, A301_0, c301_0, e301, hx301_0, hl301_0, hi301_0⟩ := at_L1 (Kd.S_reads' HO_6.out).2.2 x11_4 p301 q301
                      cases e301
                      obtain ⟨ce301, hce301, hMe301, hcc301⟩ := Kd.S_get HO_6.out [] x11_4 p301 (by first | exact q301 | exact of_decide_eq_true as_ | (have e_ := (Kd.S_reads' HO_6.out).1; omega))
                      obtain ⟨ve301_0, rfl, ge301_0⟩ := hMe301
                      have hv301_0 := hcc301 0 _ rfl
                      rw [Nat.add_zero, show ((Kd.slice 2 (Kd.int .i64))).sz = 1 from rfl, Nat.mul_one] at hv301_0
                      replace hv301_0 := Option.some.inj (hv301_0.symm.trans hx301_0)
                      rw [hv301_0] at ge301_0
                      have HL301_0 := Aside0.mk (show Kd.R (Kd.int .i64) 2 _ _ _ _ (rd_L1 x6_4 x11_4) from ge301_0)
                      clear hv301_0 ge301_0
                      have HX301_0 := Aside0.mk hx301_0
                      clear hcc301 hce301
                      have HR301_0 := Aside0.mk hi301_0
                      have HC301_0 := Aside0.mk hl301_0
                      clear hi301_0 hl301_0
                      replace p301 := eq_true p301
                      replace q301 := eq_true q301
                      try go_wp2
                      have n0_ := Aside0.mk (cellD HX301_0.out)
                      have n1_ := Aside0.mk (Kd.R_drew HO_5.out)
                      have n2_ := Aside0.mk (Kd.S_drew HO_6.out)
                      have n3_ := Aside0.mk (Kd.R_drew HL301_0.out)
                      have n4_ := Aside0.mk (Kd.C_drew HR301_0.out)
                      have n5_ := Aside0.mk (below_drew1 HB.out)
                      clear HX301_0
                      clear HO_5
                      clear HO_6
                      clear HL301_0
                      clear HR301_0
                      clear HB
                      have HX301_0 := n0_
                      have HO_5 := n1_
                      have HO_6 := n2_
                      have HL301_0 := n3_
                      have HR301_0 := n4_
                      have HB := n5_
                      clear n0_ n1_ n2_ n3_ n4_ n5_
                      have p302 : 0 ≤ ((ji26) : Int) := of_decide_eq_true as_
                      have q302 : (ji26) < ((rd_L1 x6_4 x11_4).length : Int) := of_decide_eq_true as_
                      obtain ⟨ad302, e302, hx302_0⟩ := Kd.at_int (by repeat (first | (with_reducible exact HR301_0.out) | (with_reducible refine Kd.C_alloc ?_ _) | (with_reducible refine Kd.C_drewN ?_ _) | (with_reducible refine Kd.C_drew ?_) | exact HR301_0.out)) (ji26) p302 q302
                      cases e302
                      replace p302 := eq_true p302
                      replace q302 := eq_true q302
                      obtain ⟨Ao45, co45, eo45⟩ := Kd.R_slice HO_5.out
                      (first | subst eo45 | (injection eo45 with f1_ f2_ f3_; have f4_ := f1_.symm; have f5_ := f3_.symm; clear f1_ f2_ f3_; subst f4_; subst f5_))
                      have p303 : 0 ≤ (x11_4 : Int) := of_decide_eq_true as_
                      have q303 : x11_4 < (x5_4.length : Int) := of_decide_eq_true as_
                      obtain ⟨ad303, e303, hx303_0⟩ := Kd.at_int (Kd.R_reads' HO_5.out).2.2 x11_4 p303 q303
                      cases e303
                      replace p303 := eq_true p303
                      replace q303 := eq_true q303
                      have p30 : 0 ≤ ((ji26) : Int) := of_decide_eq_true as_
                      have q30 : ((ji26) : Int) < (((rd_L1 x6_4 x11_4).length : Int) : Int) := of_decide_eq_true as_
                      obtain ⟨go30, co30, eo30, gb30, gl30, cl30, HG30⟩ := Kd.R_form HL301_0.out (by omega)
                      (first | cases eo30 | (injection eo30 with ea_ en_ ec_; (first | subst ea_ | (injection ea_ with ea_; subst ea_)); subst ec_; clear en_))
                      have GB30 := Aside0.mk gb30
                      have GG30 := Aside0.mk HG30
                      clear gb30 gl30 HG30
                      (first | simp only [add_plain] at hx302_0 | skip)
                      obtain ⟨hx30_0, hf30_0⟩ := Kd.R_celln 0 HL301_0.out ((ji26) : Int) p30 q30
                      replace p30 := eq_true p30
                      replace q30 := eq_true q30
                      have hq46 : (x11_4 : Int) < (x6_4.length : Int) := (by have h_ : (x11_4 : Int) < ((x6_4.length : Int) : Int) := of_decide_eq_true as_; first | exact h_ | (have e_ := (Kd.S_reads' HO_6.out).1; omega) | simpa only [List.length_set, List.length_set] using h_)
                      obtain ⟨oki46, ce46, hcl46, hM46, hcc46, hok46, hbk46⟩ := Kd.S_borrow HO_6.out [] (x11_4 : Int) (of_decide_eq_true as_) hq46
                      obtain ⟨ve46_0, rfl, ge46_0⟩ := hM46
                      have hv46 := hcc46 0 _ rfl
                      rw [Nat.add_zero, show ((Kd.slice 2 (Kd.int .i64))).sz = 1 from rfl, Nat.mul_one] at hv46
                      replace hv46 := Option.some.inj (hv46.symm.trans HX301_0.out)
                      subst hv46
                      clear hcc46 hcl46
                      replace ge46_0 := (show Kd.R (Kd.int .i64) 2 _ _ _ _ (rd_L1 x6_4 x11_4) from ge46_0)
                      have HP46 := Kd.R_putg ge46_0 ((ji26) : Int) (wrap64 ((rd (rd_L1 x6_4 x11_4) (ji26)) + (wrap64 (x10_19 * (rd x5_4 x11_4)))))
                      rw [← Ny304.out] at HP46
                      have HS46 := hbk46 HP46.2 (fun k_ e_ => by injection e_ with e_; subst e_; exact ge46_0.1 _ rfl) (x' := y304) (Kd.M_row HP46.1)
                      rw [← Ny306.out] at HS46
                      have HQ46 := Aside0.mk HS46
                      clear HP46 HS46 hbk46 hok46
                      refine start_ (n := 15) (S := fun w' => w'.cell? ⟨go30, ((ji26)).toNat, none⟩ = some (.int .i64 (rd (rd_L1 x6_4 x11_4) (ji26))) ∧ w'.cell? (ad303.add (x11_4).toNat) = some (.int .i64 (rd x5_4 x11_4))) (ds := [14]) #[false, false, false, false, false, false, false, false, false, false, false, false, false, false, false] (by kernel_rfl) rfl rfl ⟨hx302_0, hx303_0⟩ (fun hHeld => ?_); refine with_tabW spec_l10Expansion.tab16 spec_l10Expansion.bits16 (fun HT_ HW_ => ?_)
                      generalize wr.drew = w44 at HO_5 HO_6 HL301_0 HR301_0 HX301_0 HB GG30 HQ46 hf30_0 hx302_0 hx303_0 hx30_0 hHeld ⊢
                      refine pure_ (i := 0) (N := some 57) (v := ?_) (a' := ?_) #[true, false, false, false, false, false, false, false, false, false, false, false, false, false, false] rfl rfl (any_of HT_.out (by kernel_rfl)) (fun _ _ _ h => h) (Or.inl ⟨by rfl, ?_⟩) ?_ ?_
                      rotate_left
                      ·intro w'
                       go_simp
                       with_reducible rfl
                      rotate_left
                      ·simp only [Act.put, List.setIfInBounds_toArray, List.set_cons_zero, List.set_cons_succ, i64_w, i32_w]
                       rfl
                      refine pure_ (i := 1) (N := some 58) (v := ?_) (a' := ?_) #[true, true, false, false, false, false, false, false, false, false, false, false, false, false, false] rfl rfl (any_of HT_.out (by kernel_rfl)) (fun _ _ _ h => h) (Or.inl ⟨by rfl, ?_⟩) ?_ ?_
                      rotate_left
                      ·intro w'
                       go_simp
                       with_reducible rfl
                      rotate_left
                      ·simp only [Act.put, List.setIfInBounds_toArray, List.set_cons_zero, List.set_cons_succ, i64_w, i32_w]
                       rfl
                      refine pure_ (i := 2) (N := some 59) (v := ?_) (a' := ?_) #[true, true, true, false, false, false, false, false, false, false, false, false, false, false, false] rfl rfl (any_of HT_.out (by kernel_rfl)) (fun _ _ _ h => h) (Or.inl ⟨by rfl, ?_⟩) ?_ ?_
                      rotate_left
                      ·intro w'
                       go_simp
                       with_reducible rfl
                      rotate_left
                      ·simp only [Act.put, List.setIfInBounds_toArray, List.set_cons_zero, List.set_cons_succ, i64_w, i32_w]
                       rfl
                      refine pure_ (i := 3) (N := some 60) (v := ?_) (a' := ?_) #[true, true, true, true, false, false, false, false, false, false, false, false, false, false, false] rfl rfl (any_of HT_.out (by kernel_rfl)) (fun _ _ _ h => h) (Or.inl ⟨by rfl, ?_⟩) ?_ ?_
                      rotate_left
                      ·intro w'
                       go_simp
                       with_reducible rfl
                      rotate_left
                      ·simp only [Act.put, List.setIfInBounds_toArray, List.set_cons_zero, List.set_cons_succ, i64_w, i32_w]
                       rfl
                      refine pure_ (i := 4) (N := some 61) (v := ?_) (a' := ?_) #[true, true, true, true, true, false, false, false, false, false, false, false, false, false, false] rfl rfl (any_of HT_.out (by kernel_rfl)) (fun _ _ _ h => h) (Or.inl ⟨by rfl, ?_⟩) ?_ ?_
                      rotate_left
                      ·intro w'
                       go_simp
                       with_reducible rfl
                      rotate_left
                      ·simp only [Act.put, List.setIfInBounds_toArray, List.set_cons_zero, List.set_cons_succ, i64_w, i32_w]
                       rfl
                      refine pure_ (i := 6) (N := some 63) (v := ?_) (a' := ?_) #[true, true, true, true, true, false, true, false, false, false, false, false, false, false, false] rfl rfl (any_of HT_.out (by kernel_rfl)) (fun _ _ _ h => h) (Or.inl ⟨by rfl, ?_⟩) ?_ ?_
                      rotate_left
                      ·intro w'
                       go_simp
                       with_reducible rfl
                      rotate_left
                      ·simp only [Act.put, List.setIfInBounds_toArray, List.set_cons_zero, List.set_cons_succ, i64_w, i32_w]
                       rfl
                      refine pure_ (i := 7) (N := some 64) (v := ?_) (a' := ?_) #[true, true, true, true, true, false, true, true, false, false, false, false, false, false, false] rfl rfl (any_of HT_.out (by kernel_rfl)) (fun _ _ _ h => h) (Or.inl ⟨by rfl, ?_⟩) ?_ ?_
                      rotate_left
                      ·intro w'
                       go_simp
                       with_reducible rfl
                      rotate_left
                      ·simp only [Act.put, List.setIfInBounds_toArray, List.set_cons_zero, List.set_cons_succ, i64_w, i32_w]
                       rfl
                      refine pure_ (i := 8) (N := some 65) (v := ?_) (a' := ?_) #[true, true, true, true, true, false, true, true, true, false, false, false, false, false, false] rfl rfl (any_of HT_.out (by kernel_rfl)) (fun _ _ _ h => h) (Or.inl ⟨by rfl, ?_⟩) ?_ ?_
                      rotate_left
                      ·intro w'
                       go_simp
                       with_reducible rfl
                      rotate_left
                      ·simp only [Act.put, List.setIfInBounds_toArray, List.set_cons_zero, List.set_cons_succ, i64_w, i32_w]
                       rfl
                      refine pure_ (i := 9) (N := some 66) (v := ?_) (a' := ?_) #[true, true, true, true, true, false, true, true, true, true, false, false, false, false, false] rfl rfl (any_of HT_.out (by kernel_rfl)) (fun _ _ _ h => h) (Or.inl ⟨by rfl, ?_⟩) ?_ ?_
                      rotate_left
                      ·intro w'
                       go_simp
                       with_reducible rfl
                      rotate_left
                      ·simp only [Act.put, List.setIfInBounds_toArray, List.set_cons_zero, List.set_cons_succ, i64_w, i32_w]
                       rfl
                      refine take_ (i := 5) (N := some 62) (v := ?_) (a' := ?_) #[true, true, true, true, true, true, true, true, true, true, false, false, false, false, false] rfl rfl (take_ofW HT_.out HW_.out (by kernel_rfl)) (fun _ _ _ h => h) (Or.inl ⟨by rfl, ?_⟩) hHeld ?_ ?_
                      rotate_left
                      ·rintro w' ⟨s0, s1⟩
                       go_simp
                       with_reducible rfl
                      rotate_left
                      ·simp only [Act.put, List.setIfInBounds_toArray, List.set_cons_zero, List.set_cons_succ, i64_w, i32_w]
                       rfl
                      refine take_ (i := 10) (N := some 67) (v := ?_) (a' := ?_) #[true, true, true, true, true, true, true, true, true, true, true, false, false, false, false] rfl rfl (take_ofW HT_.out HW_.out (by kernel_rfl)) (fun _ _ _ h => h) (Or.inl ⟨by rfl, ?_⟩) hHeld ?_ ?_
                      rotate_left
                      ·rintro w' ⟨s0, s1⟩
                       go_simp
                       with_reducible rfl
                      rotate_left
                      ·simp only [Act.put, List.setIfInBounds_toArray, List.set_cons_zero, List.set_cons_succ, i64_w, i32_w]
                       rfl
                      refine pure_ (i := 11) (N := some 68) (v := ?_) (a' := ?_) #[true, true, true, true, true, true, true, true, true, true, true, true, false, false, false] rfl rfl (any_of HT_.out (by kernel_rfl)) (fun _ _ _ h => h) (Or.inl ⟨by rfl, ?_⟩) ?_ ?_
                      rotate_left
                      ·intro w'
                       go_simp
                       with_reducible rfl
                      rotate_left
                      ·simp only [Act.put, List.setIfInBounds_toArray, List.set_cons_zero, List.set_cons_succ, i64_w, i32_w]
                       rfl
                      refine pure_ (i := 12) (N := some 69) (v := ?_) (a' := ?_) #[true, true, true, true, true, true, true, true, true, true, true, true, true, false, false] rfl rfl (any_of HT_.out (by kernel_rfl)) (fun _ _ _ h => h) (Or.inl ⟨by rfl, ?_⟩) ?_ ?_
                      rotate_left
                      ·intro w'
                       go_simp
                       with_reducible rfl
                      rotate_left
                      ·simp only [Act.put, List.setIfInBounds_toArray, List.set_cons_zero, List.set_cons_succ, i64_w, i32_w]
                       rfl
                      refine pure_ (i := 13) (N := some 70) (v := ?_) (a' := ?_) #[true, true, true, true, true, true, true, true, true, true, true, true, true, true, false] rfl rfl (any_of HT_.out (by kernel_rfl)) (fun _ _ _ h => h) (Or.inl ⟨by rfl, ?_⟩) ?_ ?_
                      rotate_left
                      ·intro w'
                       go_simp
                       with_reducible rfl
                      rotate_left
                      ·simp only [Act.put, List.setIfInBounds_toArray, List.set_cons_zero, List.set_cons_succ, i64_w, i32_w]
                       rfl
                      refine last_ (i := 14) (N := none) #[true, true, true, true, true, true, true, true, true, true, true, true, true, true, true] rfl rfl (one_of HT_.out (by kernel_rfl)) (by decide) (fun K hK => ?_)
                      refine skip_ (w1 := ?_) (by rfl) rfl ?_ ?_
                      rotate_left
                      ·go_simp
                       rfl
                      refine hK.out _ _ ?_
                      clear hK K
                      refine done_ (done_of HT_.out (by kernel_rfl)) ?_
                      try go_wp2
                      go_roundg k4
                      case measure => have := HK1.out; have := HK2.out; have := HJ19.out; have := HK4.out; omega
                      case rel => exact ⟨(x5_4), (y306), (wrap64 (x11_4 + 1)), (by first | rfl | (simp; done) | (simp [*]; done)), H', ⟨by have := HK1.out; have := HK2.out; have := HJ19.out; have := HK4.out; omega⟩, ⟨by (with_reducible repeat (first | apply Kd.R_alloc | apply Kd.R_drewN | apply Kd.R_drew)); exact Kd.R_mono (Kd.R_far (p := ⟨go30, ((ji26) : Int).toNat, none⟩) (Kd.R_far1 HO_5.out rfl ((HL301_0.out.1 _ rfl).1)) (fun _ hk => hk.2) (.int .i64 (wrap64 ((rd (rd_L1 x6_4 x11_4) (ji26)) + (wrap64 (x10_19 * (rd x5_4 x11_4))))))) (fun _ hk => trivial)⟩, ⟨by (with_reducible repeat (first | apply Kd.S_alloc | apply Kd.S_drewN | apply Kd.S_drew)); exact HQ46.out⟩, ⟨by repeat (first | (with_reducible first | exact HB.out | apply below_alloc | apply pw_below_drewN | apply below_drew1 | refine below_set ?_ GB30.out) | exact HB.out)⟩⟩
                    ·rw [if_neg c31] at H
                     have c31b0 : (x11_4 == (ji26)) = false := beq_eq_false_iff_ne.mpr c31
                     have c31b1 : (x11_4 != (ji26)) = true := bne_iff_ne.mpr c31
                     have H' := Aside0.mk H
                     clear H
                     obtain ⟨Ao48, co48, eo48⟩ := Kd.S_slice HO_6.out
                     subst eo48
                     have p301 : 0 ≤ (x11_4 : Int) := of_decide_eq_true as_
                     have q301 : x11_4 < (x6_4.length : Int) := of_decide_eq_true as_
                     obtain ⟨ad301, A301_0, c301_0, e301, hx301_0, hl301_0, hi301_0⟩ := at_L1 (Kd.S_reads' HO_6.out).2.2 x11_4 p301 q301
                     cases e301
                     obtain ⟨ce301, hce301, hMe301, hcc301⟩ := Kd.S_get HO_6.out [] x11_4 p301 (by first | exact q301 | exact of_decide_eq_true as_ | (have e_ := (Kd.S_reads' HO_6.out).1; omega))
                     obtain ⟨ve301_0, rfl, ge301_0⟩ := hMe301
                     have hv301_0 := hcc301 0 _ rfl
                     rw [Nat.add_zero, show ((Kd.slice 2 (Kd.int .i64))).sz = 1 from rfl, Nat.mul_one] at hv301_0
                     replace hv301_0 := Option.some.inj (hv301_0.symm.trans hx301_0)
                     rw [hv301_0] at ge301_0
                     have HL301_0 := Aside0.mk (show Kd.R (Kd.int .i64) 2 _ _ _ _ (rd_L1 x6_4 x11_4) from ge301_0)
                     clear hv301_0 ge301_0
                     have HX301_0 := Aside0.mk hx301_0
                     clear hcc301 hce301
                     have HR301_0 := Aside0.mk hi301_0
                     have HC301_0 := Aside0.mk hl301_0
                     clear hi301_0 hl301_0
                     replace p301 := eq_true p301
                     replace q301 := eq_true q301
                     try go_wp2
                     have n0_ := Aside0.mk (cellD HX301_0.out)
                     have n1_ := Aside0.mk (Kd.R_drew HO_5.out)
                     have n2_ := Aside0.mk (Kd.S_drew HO_6.out)
                     have n3_ := Aside0.mk (Kd.R_drew HL301_0.out)
                     have n4_ := Aside0.mk (Kd.C_drew HR301_0.out)
                     have n5_ := Aside0.mk (below_drew1 HB.out)
                     clear HX301_0
                     clear HO_5
                     clear HO_6
                     clear HL301_0
                     clear HR301_0
                     clear HB
                     have HX301_0 := n0_
                     have HO_5 := n1_
                     have HO_6 := n2_
                     have HL301_0 := n3_
                     have HR301_0 := n4_
                     have HB := n5_
                     clear n0_ n1_ n2_ n3_ n4_ n5_
                     have p302 : 0 ≤ ((ji26) : Int) := of_decide_eq_true as_
                     have q302 : (ji26) < ((rd_L1 x6_4 x11_4).length : Int) := of_decide_eq_true as_
                     obtain ⟨ad302, e302, hx302_0⟩ := Kd.at_int (by repeat (first | (with_reducible exact HR301_0.out) | (with_reducible refine Kd.C_alloc ?_ _) | (with_reducible refine Kd.C_drewN ?_ _) | (with_reducible refine Kd.C_drew ?_) | exact HR301_0.out)) (ji26) p302 q302
                     cases e302
                     replace p302 := eq_true p302
                     replace q302 := eq_true q302
                     obtain ⟨Ao50, co50, eo50⟩ := Kd.R_slice HO_5.out
                     (first | subst eo50 | (injection eo50 with f1_ f2_ f3_; have f4_ := f1_.symm; have f5_ := f3_.symm; clear f1_ f2_ f3_; subst f4_; subst f5_))
                     have p303 : 0 ≤ (x11_4 : Int) := of_decide_eq_true as_
                     have q303 : x11_4 < (x5_4.length : Int) := of_decide_eq_true as_
                     obtain ⟨ad303, e303, hx303_0⟩ := Kd.at_int (Kd.R_reads' HO_5.out).2.2 x11_4 p303 q303
                     cases e303
                     replace p303 := eq_true p303
                     replace q303 := eq_true q303
                     have p30 : 0 ≤ ((ji26) : Int) := of_decide_eq_true as_
                     have q30 : ((ji26) : Int) < (((rd_L1 x6_4 x11_4).length : Int) : Int) := of_decide_eq_true as_
                     obtain ⟨go30, co30, eo30, gb30, gl30, cl30, HG30⟩ := Kd.R_form HL301_0.out (by omega)
                     (first | cases eo30 | (injection eo30 with ea_ en_ ec_; (first | subst ea_ | (injection ea_ with ea_; subst ea_)); subst ec_; clear en_))
                     have GB30 := Aside0.mk gb30
                     have GG30 := Aside0.mk HG30
                     clear gb30 gl30 HG30
                     (first | simp only [add_plain] at hx302_0 | skip)
                     obtain ⟨hx30_0, hf30_0⟩ := Kd.R_celln 0 HL301_0.out ((ji26) : Int) p30 q30
                     replace p30 := eq_true p30
                     replace q30 := eq_true q30
                     have hq51 : (x11_4 : Int) < (x6_4.length : Int) := (by have h_ : (x11_4 : Int) < ((x6_4.length : Int) : Int) := of_decide_eq_true as_; first | exact h_ | (have e_ := (Kd.S_reads' HO_6.out).1; omega) | simpa only [List.length_set, List.length_set] using h_)
                     obtain ⟨oki51, ce51, hcl51, hM51, hcc51, hok51, hbk51⟩ := Kd.S_borrow HO_6.out [] (x11_4 : Int) (of_decide_eq_true as_) hq51
                     obtain ⟨ve51_0, rfl, ge51_0⟩ := hM51
                     have hv51 := hcc51 0 _ rfl
                     rw [Nat.add_zero, show ((Kd.slice 2 (Kd.int .i64))).sz = 1 from rfl, Nat.mul_one] at hv51
                     replace hv51 := Option.some.inj (hv51.symm.trans HX301_0.out)
                     subst hv51
                     clear hcc51 hcl51
                     replace ge51_0 := (show Kd.R (Kd.int .i64) 2 _ _ _ _ (rd_L1 x6_4 x11_4) from ge51_0)
                     have HP51 := Kd.R_putg ge51_0 ((ji26) : Int) (wrap64 ((rd (rd_L1 x6_4 x11_4) (ji26)) + (wrap64 (x10_19 * (rd x5_4 x11_4)))))
                     rw [← Ny304.out] at HP51
                     have HS51 := hbk51 HP51.2 (fun k_ e_ => by injection e_ with e_; subst e_; exact ge51_0.1 _ rfl) (x' := y304) (Kd.M_row HP51.1)
                     rw [← Ny306.out] at HS51
                     have HQ51 := Aside0.mk HS51
                     clear HP51 HS51 hbk51 hok51
                     refine start_ (n := 15) (S := fun w' => w'.cell? ⟨go30, ((ji26)).toNat, none⟩ = some (.int .i64 (rd (rd_L1 x6_4 x11_4) (ji26))) ∧ w'.cell? (ad303.add (x11_4).toNat) = some (.int .i64 (rd x5_4 x11_4))) (ds := [14]) #[false, false, false, false, false, false, false, false, false, false, false, false, false, false, false] (by kernel_rfl) rfl rfl ⟨hx302_0, hx303_0⟩ (fun hHeld => ?_); refine with_tabW spec_l10Expansion.tab16 spec_l10Expansion.bits16 (fun HT_ HW_ => ?_)
                     generalize wr.drew = w49 at HO_5 HO_6 HL301_0 HR301_0 HX301_0 HB GG30 HQ51 hf30_0 hx302_0 hx303_0 hx30_0 hHeld ⊢
                     refine pure_ (i := 0) (N := some 57) (v := ?_) (a' := ?_) #[true, false, false, false, false, false, false, false, false, false, false, false, false, false, false] rfl rfl (any_of HT_.out (by kernel_rfl)) (fun _ _ _ h => h) (Or.inl ⟨by rfl, ?_⟩) ?_ ?_
                     rotate_left
                     ·intro w'
                      go_simp
                      with_reducible rfl
                     rotate_left
                     ·simp only [Act.put, List.setIfInBounds_toArray, List.set_cons_zero, List.set_cons_succ, i64_w, i32_w]
                      rfl
                     refine pure_ (i := 1) (N := some 58) (v := ?_) (a' := ?_) #[true, true, false, false, false, false, false, false, false, false, false, false, false, false, false] rfl rfl (any_of HT_.out (by kernel_rfl)) (fun _ _ _ h => h) (Or.inl ⟨by rfl, ?_⟩) ?_ ?_
                     rotate_left
                     ·intro w'
                      go_simp
                      with_reducible rfl
                     rotate_left
                     ·simp only [Act.put, List.setIfInBounds_toArray, List.set_cons_zero, List.set_cons_succ, i64_w, i32_w]
                      rfl
                     refine pure_ (i := 2) (N := some 59) (v := ?_) (a' := ?_) #[true, true, true, false, false, false, false, false, false, false, false, false, false, false, false] rfl rfl (any_of HT_.out (by kernel_rfl)) (fun _ _ _ h => h) (Or.inl ⟨by rfl, ?_⟩) ?_ ?_
                     rotate_left
                     ·intro w'
                      go_simp
                      with_reducible rfl
                     rotate_left
                     ·simp only [Act.put, List.setIfInBounds_toArray, List.set_cons_zero, List.set_cons_succ, i64_w, i32_w]
                      rfl
                     refine pure_ (i := 3) (N := some 60) (v := ?_) (a' := ?_) #[true, true, true, true, false, false, false, false, false, false, false, false, false, false, false] rfl rfl (any_of HT_.out (by kernel_rfl)) (fun _ _ _ h => h) (Or.inl ⟨by rfl, ?_⟩) ?_ ?_
                     rotate_left
                     ·intro w'
                      go_simp
                      with_reducible rfl
                     rotate_left
                     ·simp only [Act.put, List.setIfInBounds_toArray, List.set_cons_zero, List.set_cons_succ, i64_w, i32_w]
                      rfl
                     refine pure_ (i := 4) (N := some 61) (v := ?_) (a' := ?_) #[true, true, true, true, true, false, false, false, false, false, false, false, false, false, false] rfl rfl (any_of HT_.out (by kernel_rfl)) (fun _ _ _ h => h) (Or.inl ⟨by rfl, ?_⟩) ?_ ?_
                     rotate_left
                     ·intro w'
                      go_simp
                      with_reducible rfl
                     rotate_left
                     ·simp only [Act.put, List.setIfInBounds_toArray, List.set_cons_zero, List.set_cons_succ, i64_w, i32_w]
                      rfl
                     refine pure_ (i := 6) (N := some 63) (v := ?_) (a' := ?_) #[true, true, true, true, true, false, true, false, false, false, false, false, false, false, false] rfl rfl (any_of HT_.out (by kernel_rfl)) (fun _ _ _ h => h) (Or.inl ⟨by rfl, ?_⟩) ?_ ?_
                     rotate_left
                     ·intro w'
                      go_simp
                      with_reducible rfl
                     rotate_left
                     ·simp only [Act.put, List.setIfInBounds_toArray, List.set_cons_zero, List.set_cons_succ, i64_w, i32_w]
                      rfl
                     refine pure_ (i := 7) (N := some 64) (v := ?_) (a' := ?_) #[true, true, true, true, true, false, true, true, false, false, false, false, false, false, false] rfl rfl (any_of HT_.out (by kernel_rfl)) (fun _ _ _ h => h) (Or.inl ⟨by rfl, ?_⟩) ?_ ?_
                     rotate_left
                     ·intro w'
                      go_simp
                      with_reducible rfl
                     rotate_left
                     ·simp only [Act.put, List.setIfInBounds_toArray, List.set_cons_zero, List.set_cons_succ, i64_w, i32_w]
                      rfl
                     refine pure_ (i := 8) (N := some 65) (v := ?_) (a' := ?_) #[true, true, true, true, true, false, true, true, true, false, false, false, false, false, false] rfl rfl (any_of HT_.out (by kernel_rfl)) (fun _ _ _ h => h) (Or.inl ⟨by rfl, ?_⟩) ?_ ?_
                     rotate_left
                     ·intro w'
                      go_simp
                      with_reducible rfl
                     rotate_left
                     ·simp only [Act.put, List.setIfInBounds_toArray, List.set_cons_zero, List.set_cons_succ, i64_w, i32_w]
                      rfl
                     refine pure_ (i := 9) (N := some 66) (v := ?_) (a' := ?_) #[true, true, true, true, true, false, true, true, true, true, false, false, false, false, false] rfl rfl (any_of HT_.out (by kernel_rfl)) (fun _ _ _ h => h) (Or.inl ⟨by rfl, ?_⟩) ?_ ?_
                     rotate_left
                     ·intro w'
                      go_simp
                      with_reducible rfl
                     rotate_left
                     ·simp only [Act.put, List.setIfInBounds_toArray, List.set_cons_zero, List.set_cons_succ, i64_w, i32_w]
                      rfl
                     refine take_ (i := 5) (N := some 62) (v := ?_) (a' := ?_) #[true, true, true, true, true, true, true, true, true, true, false, false, false, false, false] rfl rfl (take_ofW HT_.out HW_.out (by kernel_rfl)) (fun _ _ _ h => h) (Or.inl ⟨by rfl, ?_⟩) hHeld ?_ ?_
                     rotate_left
                     ·rintro w' ⟨s0, s1⟩
                      go_simp
                      with_reducible rfl
                     rotate_left
                     ·simp only [Act.put, List.setIfInBounds_toArray, List.set_cons_zero, List.set_cons_succ, i64_w, i32_w]
                      rfl
                     refine take_ (i := 10) (N := some 67) (v := ?_) (a' := ?_) #[true, true, true, true, true, true, true, true, true, true, true, false, false, false, false] rfl rfl (take_ofW HT_.out HW_.out (by kernel_rfl)) (fun _ _ _ h => h) (Or.inl ⟨by rfl, ?_⟩) hHeld ?_ ?_
                     rotate_left
                     ·rintro w' ⟨s0, s1⟩
                      go_simp
                      with_reducible rfl
                     rotate_left
                     ·simp only [Act.put, List.setIfInBounds_toArray, List.set_cons_zero, List.set_cons_succ, i64_w, i32_w]
                      rfl
                     refine pure_ (i := 11) (N := some 68) (v := ?_) (a' := ?_) #[true, true, true, true, true, true, true, true, true, true, true, true, false, false, false] rfl rfl (any_of HT_.out (by kernel_rfl)) (fun _ _ _ h => h) (Or.inl ⟨by rfl, ?_⟩) ?_ ?_
                     rotate_left
                     ·intro w'
                      go_simp
                      with_reducible rfl
                     rotate_left
                     ·simp only [Act.put, List.setIfInBounds_toArray, List.set_cons_zero, List.set_cons_succ, i64_w, i32_w]
                      rfl
                     refine pure_ (i := 12) (N := some 69) (v := ?_) (a' := ?_) #[true, true, true, true, true, true, true, true, true, true, true, true, true, false, false] rfl rfl (any_of HT_.out (by kernel_rfl)) (fun _ _ _ h => h) (Or.inl ⟨by rfl, ?_⟩) ?_ ?_
                     rotate_left
                     ·intro w'
                      go_simp
                      with_reducible rfl
                     rotate_left
                     ·simp only [Act.put, List.setIfInBounds_toArray, List.set_cons_zero, List.set_cons_succ, i64_w, i32_w]
                      rfl
                     refine pure_ (i := 13) (N := some 70) (v := ?_) (a' := ?_) #[true, true, true, true, true, true, true, true, true, true, true, true, true, true, false] rfl rfl (any_of HT_.out (by kernel_rfl)) (fun _ _ _ h => h) (Or.inl ⟨by rfl, ?_⟩) ?_ ?_
                     rotate_left
                     ·intro w'
                      go_simp
                      with_reducible rfl
                     rotate_left
                     ·simp only [Act.put, List.setIfInBounds_toArray, List.set_cons_zero, List.set_cons_succ, i64_w, i32_w]
                      rfl
                     refine last_ (i := 14) (N := none) #[true, true, true, true, true, true, true, true, true, true, true, true, true, true, true] rfl rfl (one_of HT_.out (by kernel_rfl)) (by decide) (fun K hK => ?_)
                     refine skip_ (w1 := ?_) (by rfl) rfl ?_ ?_
                     rotate_left
                     ·go_simp
                      rfl
                     refine hK.out _ _ ?_
                     clear hK K
                     refine done_ (done_of HT_.out (by kernel_rfl)) ?_
                     try go_wp2
                     go_roundg k4
                     case measure => have := HK1.out; have := HK2.out; have := HJ19.out; have := HK4.out; omega
                     case rel => exact ⟨(x5_4), (y306), (wrap64 (x11_4 + 1)), (by first | rfl | (simp; done) | (simp [*]; done)), H', ⟨by have := HK1.out; have := HK2.out; have := HJ19.out; have := HK4.out; omega⟩, ⟨by (with_reducible repeat (first | apply Kd.R_alloc | apply Kd.R_drewN | apply Kd.R_drew)); exact Kd.R_mono (Kd.R_far (p := ⟨go30, ((ji26) : Int).toNat, none⟩) (Kd.R_far1 HO_5.out rfl ((HL301_0.out.1 _ rfl).1)) (fun _ hk => hk.2) (.int .i64 (wrap64 ((rd (rd_L1 x6_4 x11_4) (ji26)) + (wrap64 (x10_19 * (rd x5_4 x11_4))))))) (fun _ hk => trivial)⟩, ⟨by (with_reducible repeat (first | apply Kd.S_alloc | apply Kd.S_drewN | apply Kd.S_drew)); exact HQ51.out⟩, ⟨by repeat (first | (with_reducible first | exact HB.out | apply below_alloc | apply pw_below_drewN | apply below_drew1 | refine below_set ?_ GB30.out) | exact HB.out)⟩⟩
                   ·rw [if_neg c29] at H
                    exact absurd H (by simp)
                  ·rw [if_neg c28] at H
                   exact absurd H (by simp)
                 ·rw [if_neg c27] at H
                  exact absurd H (by simp)
                ·rw [if_neg c25] at H
                 exact absurd H (by simp)
               ·rw [if_neg c24] at H
                exact absurd H (by simp)
              ·rw [if_neg c23] at H
               have c23b0 : decide (x11_4 < a1) = false := decide_eq_false c23
               clear c23
               by_cases c54 : 0 ≤ (ji26)
               ·rw [if_pos c54] at H
                have c54b0 : decide (0 ≤ (ji26)) = true := decide_eq_true c54
                clear c54
                by_cases c55 : (ji26) < (x5_4.length : Int)
                ·rw [if_pos c55] at H
                 have c55b0 : decide ((ji26) < (x5_4.length : Int)) = true := decide_eq_true c55
                 clear c55
                 obtain ⟨y313, hy313⟩ : ∃ y_ : List Int, y_ = (x5_4.set ((ji26) : Int).toNat (wrap64 ((rd x5_4 (ji26)) + x10_19))) := ⟨_, rfl⟩
                 replace H : (spec_l10Expansion.l1 k4 l0 a1 y313 x6_4 (wrap64 (x8_2 + 1))) = some r := by first | (rw [hy313]; with_reducible exact H) | (have H2_ := (Option.bind_some _ _).symm.trans H; rw [hy313]; with_reducible exact H2_) | (have H2_ := (Option.bind_some _ _).symm.trans H; with_reducible exact H2_) | with_reducible exact H | (rw [hy313]; exact H) | exact H
                 have Ny313 := Aside0.mk hy313
                 clear hy313
                 have H' := Aside0.mk H
                 clear H
                 obtain ⟨Ao57, co57, eo57⟩ := Kd.R_slice HO_5.out
                 subst eo57
                 have p312 : 0 ≤ ((ji26) : Int) := of_decide_eq_true as_
                 have q312 : (ji26) < (x5_4.length : Int) := of_decide_eq_true as_
                 obtain ⟨ad312, e312, hx312_0⟩ := Kd.at_int (Kd.R_reads' HO_5.out).2.2 (ji26) p312 q312
                 cases e312
                 replace p312 := eq_true p312
                 replace q312 := eq_true q312
                 have p56 : 0 ≤ ((ji26) : Int) := of_decide_eq_true as_
                 have q56 : ((ji26) : Int) < ((x5_4.length : Int) : Int) := of_decide_eq_true as_
                 obtain ⟨go56, co56, eo56, gb56, gl56, cl56, HG56⟩ := Kd.R_form HO_5.out (by omega)
                 (first | cases eo56 | (injection eo56 with ea_ en_ ec_; (first | subst ea_ | (injection ea_ with ea_; subst ea_)); subst ec_; clear en_))
                 have GB56 := Aside0.mk gb56
                 have GG56 := Aside0.mk HG56
                 clear gb56 gl56 HG56
                 (first | simp only [add_plain] at hx312_0 | skip)
                 obtain ⟨hx56_0, hf56_0⟩ := Kd.R_celln 0 HO_5.out ((ji26) : Int) p56 q56
                 replace p56 := eq_true p56
                 replace q56 := eq_true q56
                 obtain ⟨hy58_, hz58_⟩ := Kd.R_celln 0 HO_5.out ((ji26) : Int) (of_decide_eq_true as_) (of_decide_eq_true as_)
                 have HP58 := Kd.R_putg HO_5.out ((ji26) : Int) (wrap64 ((rd x5_4 (ji26)) + x10_19))
                 go_wp2_with (first | ((with_reducible refine gate_store (t := 2) (p := 92) rfl ?_); refine store_event (t := 2) (p := 92) (v := ?vo_w59) (w1 := (wr.setCell ⟨go56, ((ji26) : Int).toNat, none⟩ (.int .i64 (wrap64 ((rd x5_4 (ji26)) + x10_19))))) ?hg ?ho ?hn ?hr ?_; (case ho => rfl); (case hg => rfl); (case hn => rfl); (case hr => first | (go_simp; done) | (go_simp; rfl)); intro w59 hw; have hg : wr.grownBy w59 (some go56) := (by rw [hw]; exact HP58.2); have hp_ : Kd.R (Kd.int .i64) 2 w59 w.heap.size (fun _ => True) (.slice (some ⟨go56, 0, none⟩) x5_4.length co57) y313 := (by rw [hw, Ny313.out]; exact HP58.1); clear HP58; have n0_ := Aside0.mk (hp_); have n1_ := Aside0.mk (Kd.S_after (v := (.slice (some ⟨go56, 0, none⟩) x5_4.length co57)) (v1 := (.slice (some ⟨go56, 0, none⟩) x5_4.length co57)) (ok := (fun _ => True)) (by (with_reducible repeat (first | apply Kd.S_alloc | apply Kd.S_drewN | apply Kd.S_drew)); exact Kd.S_mono HO_6.out (fun _ hk => ⟨trivial, hk⟩)) hg (.inl rfl)); have n2_ := Aside0.mk ((by rw [hw]; exact below_set (HB.out) GB56.out : Below w.heap.size w w59)); clear HO_5; clear HO_6; clear HB; have HO_5 := n0_; have HO_6 := n1_; have HB := n2_; clear n0_ n1_ n2_; clear hg hw hp_))
                 go_roundg k4
                 case measure => have := HK1.out; have := HK2.out; have := HJ19.out; have := HK4.out; omega
                 case rel => exact ⟨(y313), (x6_4), (wrap64 (x8_2 + 1)), (by first | rfl | (simp; done) | (simp [*]; done)), H', ⟨by have := HK1.out; have := HK2.out; have := HJ19.out; have := HK4.out; omega⟩, ⟨by (with_reducible repeat (first | apply Kd.R_alloc | apply Kd.R_drewN | apply Kd.R_drew)); exact HO_5.out⟩, ⟨by (with_reducible repeat (first | apply Kd.S_alloc | apply Kd.S_drewN | apply Kd.S_drew)); exact Kd.S_mono HO_6.out (fun _ hk => hk.2)⟩, ⟨by repeat (first | (with_reducible first | exact HB.out | apply below_alloc | apply pw_below_drewN | apply below_drew1) | exact HB.out)⟩⟩
                ·rw [if_neg c55] at H
                 exact absurd H (by simp)
               ·rw [if_neg c54] at H
                exact absurd H (by simp)
         ·rw [if_neg c18] at H
          exact absurd H (by simp)
        ·rw [if_neg c17] at H
         have c17b0 : decide (x8_2 < (l0.length : Int)) = false := decide_eq_false c17
         clear c17
         obtain rfl := Option.some.inj H
         go_wp2
         go_ret
         exact ⟨_, by first | rfl | (simp [errW_none, errW_some] <;> rfl) | (simp [*, errW_none, errW_some] <;> rfl), by (with_reducible repeat (first | apply Kd.S_alloc | apply Kd.S_drewN | apply Kd.S_drew)); exact Kd.S_mono HO_6.out (fun _ hk => trivial), by repeat (first | (with_reducible first | exact HB.out | apply below_alloc | apply pw_below_drewN | apply below_drew1) | exact HB.out)⟩
  ·rw [if_neg c4] at H
   exact absurd H (by simp)
 ·rw [if_neg c3] at H
  exact absurd H (by simp)

end Go.Proofs.Ytcbomfkimohlfaa.MFnExactExpansionOf
