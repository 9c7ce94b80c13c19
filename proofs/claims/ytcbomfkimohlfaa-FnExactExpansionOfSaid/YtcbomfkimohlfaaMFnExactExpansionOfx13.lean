-- Walks of the functions that a law reaches, one after the other: plain functions, and that the machine's calls come to what they tell (wip/tools/myprint.py of this repo).
import Derived.Test.YtcbomfkimohlfaaMFnExactExpansionOfx0
import Derived.Test.YtcbomfkimohlfaaMFnExactExpansionOfx8
import Derived.Test.YtcbomfkimohlfaaMFnExactExpansionOfx9
import Derived.Test.YtcbomfkimohlfaaMFnExactExpansionOfx11
import Derived.Test.YtcbomfkimohlfaaMFnExactExpansionOfx12
namespace Go.Proofs.Ytcbomfkimohlfaa.MFnExactExpansionOf
open Go.RowKit Go.Proofs.YtcbomfkimohlfaaW.PrintWords Go.Proofs.YtcbomfkimohlfaaW.PrintLast Go.Proofs.YtcbomfkimohlfaaW.PrintMore
attribute [local go_sem] max2_int min2_int max_two min_two max_three min_three max_four min_four   -- for this text's walks alone
set_option linter.unusedVariables false
set_option linter.unusedSimpArgs false

/-! ### impl_ExpansionOf: function 34 -/
mutual
def impl_ExpansionOf.l0 : Nat → Int → List (List Int) → List Int → List Int → Int → Int → Option ((List (List Int)) × Int)
 | 0, _, _, _, _, _, _ => none
 | k + 1, x1, x8, x9, x48, x49, x50 => if x50 < x49 then (if 0 ≤ x50 then (if x50 < (x48.length : Int) then ((impl_size.f (rd x48 x50)).bind fun t486 => (impl_ExpansionOf.l1 k x1 x8 x9 (rd x48 x50) (wrap64 (t486 - 1)) x48 x49 x50 x1 0)) else (none)) else (none)) else (some (x8, 0))
def impl_ExpansionOf.l1 : Nat → Int → List (List Int) → List Int → Int → Int → List Int → Int → Int → Int → Int → Option ((List (List Int)) × Int)
 | 0, _, _, _, _, _, _, _, _, _, _ => none
 | k + 1, x1, x8, x9, x11, x12, x48, x49, x50, x57, x58 => if x58 < x57 then (if 0 ≤ x58 then (if x58 < (x8.length : Int) then (if 0 ≤ x12 then (if x12 < ((rd_L1 x8 x58).length : Int) then (if x58 < (x9.length : Int) then ((impl_sign.f x11).bind fun t490 => (impl_ExpansionOf.l1 k x1 (x8.set (x58 : Int).toNat ((rd_L1 x8 x58).set (x12 : Int).toNat (wrap64 ((rd (rd_L1 x8 x58) x12) + (wrap64 ((rd x9 x58) * t490)))))) x9 x11 x12 x48 x49 x50 x57 (wrap64 (x58 + 1)))) else (none)) else (none)) else (none)) else (none)) else (none)) else (if x11 < 0 then (if 0 ≤ x12 then (if x12 < (x8.length : Int) then (if x12 < ((rd_L1 x8 x12).length : Int) then (if x12 < (x9.length : Int) then ((impl_sign.f x11).bind fun t500 => (impl_ExpansionOf.l0 k x1 (x8.set (x12 : Int).toNat ((rd_L1 x8 x12).set (x12 : Int).toNat (wrap64 ((rd (rd_L1 x8 x12) x12) + 1)))) (x9.set (x12 : Int).toNat (wrap64 ((rd x9 x12) + t500))) x48 x49 (wrap64 (x50 + 1)))) else (none)) else (none)) else (none)) else (none)) else (if 0 ≤ x12 then (if x12 < (x9.length : Int) then ((impl_sign.f x11).bind fun t503 => (impl_ExpansionOf.l0 k x1 x8 (x9.set (x12 : Int).toNat (wrap64 ((rd x9 x12) + t503))) x48 x49 (wrap64 (x50 + 1)))) else (none)) else (none)))
end
def impl_ExpansionOf.f (k : Nat) (a0_0 : Int) (l0_1 : List Int) (a1 : Int) : Option ((List (List Int)) × Int) := (impl_IsBraid.f k a0_0 l0_1).bind fun t471 => (if t471 = true then ((impl_within.f a1 1 (wrap64 (a0_0 - 1))).bind fun t472 => (if t472 = true then ((impl_isPure.f k a0_0 l0_1).bind fun t473 => (if t473 = true then ((impl_combOf.f k a0_0 l0_1).bind fun bt474 => (if bt474.2 = 0 then ((impl_zeroRows.f k a1).bind fun t478 => (if 0 ≤ a1 then (if (a1 : Int).toNat ≤ 35184372088832 then (if 0 ≤ (wrap64 ((wrap64 (a0_0 - 1)) - a1)) then (if (wrap64 ((wrap64 (a0_0 - 1)) - a1)) < (bt474.1.length : Int) then (impl_ExpansionOf.l0 k a1 t478 (List.replicate (a1 : Int).toNat 0) (rd_L1 bt474.1 (wrap64 ((wrap64 (a0_0 - 1)) - a1))) ((rd_L1 bt474.1 (wrap64 ((wrap64 (a0_0 - 1)) - a1))).length : Int) 0) else (none)) else (none)) else (none)) else (none))) else (some (([] : List (List Int)), bt474.2)))) else (some (([] : List (List Int)), 5)))) else (some (([] : List (List Int)), 2)))) else (some (([] : List (List Int)), 1)))
theorem impl_ExpansionOf.mono_l : ∀ k, (∀ y0 y1 y2 y3 y4 y5, LeO (impl_ExpansionOf.l0 k y0 y1 y2 y3 y4 y5) (impl_ExpansionOf.l0 (k + 1) y0 y1 y2 y3 y4 y5)) ∧ (∀ y0 y1 y2 y3 y4 y5 y6 y7 y8 y9, LeO (impl_ExpansionOf.l1 k y0 y1 y2 y3 y4 y5 y6 y7 y8 y9) (impl_ExpansionOf.l1 (k + 1) y0 y1 y2 y3 y4 y5 y6 y7 y8 y9))
 | 0 => ⟨fun _ _ _ _ _ _ r h => by simp [impl_ExpansionOf.l0] at h, fun _ _ _ _ _ _ _ _ _ _ r h => by simp [impl_ExpansionOf.l1] at h⟩
 | k + 1 => by
  obtain ⟨ih0, ih1⟩ := impl_ExpansionOf.mono_l k
  refine ⟨?_, ?_⟩
  ·intro y0 y1 y2 y3 y4 y5
   unfold impl_ExpansionOf.l0
   repeat' first
   | (with_reducible exact ih0 _ _ _ _ _ _)
   | (with_reducible exact ih1 _ _ _ _ _ _ _ _ _ _)
   | (with_reducible exact impl_IsBraid.mono _ _ _)
   | (with_reducible exact impl_combOf.mono _ _ _)
   | (with_reducible exact impl_isPure.mono _ _ _)
   | (with_reducible exact impl_zeroRows.mono _ _)
   | (with_reducible exact LeO.refl _)
   | (with_reducible exact LeO.none _)
   | (with_reducible refine LeO.ite ?_ ?_)
   | (with_reducible refine LeO.bind ?_ (fun _ => ?_))
   | exact ih0 _ _ _ _ _ _
   | exact ih1 _ _ _ _ _ _ _ _ _ _
   | exact impl_IsBraid.mono _ _ _
   | exact impl_combOf.mono _ _ _
   | exact impl_isPure.mono _ _ _
   | exact impl_zeroRows.mono _ _
   | exact LeO.none _
   | refine LeO.ite ?_ ?_
   | refine LeO.bind ?_ (fun _ => ?_)
  ·intro y0 y1 y2 y3 y4 y5 y6 y7 y8 y9
   unfold impl_ExpansionOf.l1
   repeat' first
   | (with_reducible exact ih0 _ _ _ _ _ _)
   | (with_reducible exact ih1 _ _ _ _ _ _ _ _ _ _)
   | (with_reducible exact impl_IsBraid.mono _ _ _)
   | (with_reducible exact impl_combOf.mono _ _ _)
   | (with_reducible exact impl_isPure.mono _ _ _)
   | (with_reducible exact impl_zeroRows.mono _ _)
   | (with_reducible exact LeO.refl _)
   | (with_reducible exact LeO.none _)
   | (with_reducible refine LeO.ite ?_ ?_)
   | (with_reducible refine LeO.bind ?_ (fun _ => ?_))
   | exact ih0 _ _ _ _ _ _
   | exact ih1 _ _ _ _ _ _ _ _ _ _
   | exact impl_IsBraid.mono _ _ _
   | exact impl_combOf.mono _ _ _
   | exact impl_isPure.mono _ _ _
   | exact impl_zeroRows.mono _ _
   | exact LeO.none _
   | refine LeO.ite ?_ ?_
   | refine LeO.bind ?_ (fun _ => ?_)
theorem impl_ExpansionOf.mono : ∀ a0 a1 a2 k, LeO (impl_ExpansionOf.f k a0 a1 a2) (impl_ExpansionOf.f (k + 1) a0 a1 a2) := by
 intro a0 a1 a2 k
 obtain ⟨ih0, ih1⟩ := impl_ExpansionOf.mono_l k
 unfold impl_ExpansionOf.f
 repeat' first
   | (with_reducible exact ih0 _ _ _ _ _ _)
   | (with_reducible exact ih1 _ _ _ _ _ _ _ _ _ _)
   | (with_reducible exact impl_IsBraid.mono _ _ _)
   | (with_reducible exact impl_combOf.mono _ _ _)
   | (with_reducible exact impl_isPure.mono _ _ _)
   | (with_reducible exact impl_zeroRows.mono _ _)
   | (with_reducible exact LeO.refl _)
   | (with_reducible exact LeO.none _)
   | (with_reducible refine LeO.ite ?_ ?_)
   | (with_reducible refine LeO.bind ?_ (fun _ => ?_))
   | exact ih0 _ _ _ _ _ _
   | exact ih1 _ _ _ _ _ _ _ _ _ _
   | exact impl_IsBraid.mono _ _ _
   | exact impl_combOf.mono _ _ _
   | exact impl_isPure.mono _ _ _
   | exact impl_zeroRows.mono _ _
   | exact LeO.none _
   | refine LeO.ite ?_ ?_
   | refine LeO.bind ?_ (fun _ => ?_)
def impl_ExpansionOf.T18 : Bool × List (List Nat × List Nat) := (true, [([], []), ([], []), ([0, 1], [0, 1]), ([2], [2]), ([], []), ([3, 4], [3, 4]), ([5], [5]), ([], []), ([], []), ([7, 8], [7, 8]), ([9], [9]), ([], []), ([11], [11]), ([10, 12], [10, 12]), ([6, 13], [6, 13]), ([3, 4, 0, 1, 2, 3, 4, 5, 6, 7, 8, 9, 10, 11, 12, 13, 14], [3, 4]), ([15, 14, 12, 0, 1, 2, 3, 4, 5, 6, 7, 8, 9, 10, 11, 12, 13, 14], [14, 15])])
def impl_ExpansionOf.B18 : List Nat := [0, 0, 3, 7, 0, 31, 63, 0, 0, 384, 896, 0, 2048, 8064, 16383, 32767, 65535]
theorem impl_ExpansionOf.tab18 : rtab .any (opsOf Try.f34 18) = impl_ExpansionOf.T18 := by kernel_rfl
theorem impl_ExpansionOf.bits18 : waitsOk impl_ExpansionOf.T18.2 impl_ExpansionOf.B18 = true := by kernel_rfl
def impl_ExpansionOf.T22 : Bool × List (List Nat × List Nat) := (true, [([], []), ([], []), ([0, 1], [0, 1]), ([2], [2]), ([], []), ([4], [4]), ([3, 5], [3, 5]), ([0, 1, 0, 1, 2, 3, 4, 5, 6], [0, 1]), ([7, 6, 5, 0, 1, 2, 3, 4, 5, 6], [6, 7])])
def impl_ExpansionOf.B22 : List Nat := [0, 0, 3, 7, 0, 16, 63, 127, 255]
theorem impl_ExpansionOf.tab22 : rtab .any (opsOf Try.f34 22) = impl_ExpansionOf.T22 := by kernel_rfl
theorem impl_ExpansionOf.bits22 : waitsOk impl_ExpansionOf.T22.2 impl_ExpansionOf.B22 = true := by kernel_rfl
set_option maxHeartbeats 8000000 in
set_option maxRecDepth 100000 in
theorem impl_ExpansionOf.calls (k : Nat) (a0_0 : Int) (A0_1 : Option Addr) (c0_1 : Nat) (l0_1 : List Int) (a1 : Int) (r1 : List (List Int)) (r2 : Int) (w : World) (hr0_1 : Kd.C (Kd.int .i64) w A0_1 l0_1.length l0_1) (hc0_1 : l0_1.length ≤ c0_1) (h : impl_ExpansionOf.f k a0_0 l0_1 a1 = some (r1, r2)) :
  Calls Try.prog 34 #[.agg #[.int .i64 a0_0, .slice A0_1 l0_1.length c0_1], .int .i64 a1] w fun e w' => ∃ v0_ : Value, e = .returned (.tuple #[v0_, .int .i64 r2]) ∧ Kd.S (Kd.slice 2 (Kd.int .i64)) 22 w' w.heap.size (fun _ => True) v0_ r1 ∧ Below w.heap.size w w' := by
 have hu26 := Try.underlying26
 have HR0_1 := Aside0.mk hr0_1
 have HC0_1 := Aside0.mk hc0_1
 clear hr0_1 hc0_1
 have HB := Aside0.mk (Below.refl w.heap.size w)
 have H : ((impl_IsBraid.f k a0_0 l0_1).bind fun t471 => (if t471 = true then ((impl_within.f a1 1 (wrap64 (a0_0 - 1))).bind fun t472 => (if t472 = true then ((impl_isPure.f k a0_0 l0_1).bind fun t473 => (if t473 = true then ((impl_combOf.f k a0_0 l0_1).bind fun bt474 => (if bt474.2 = 0 then ((impl_zeroRows.f k a1).bind fun t478 => (if 0 ≤ a1 then (if (a1 : Int).toNat ≤ 35184372088832 then (if 0 ≤ (wrap64 ((wrap64 (a0_0 - 1)) - a1)) then (if (wrap64 ((wrap64 (a0_0 - 1)) - a1)) < (bt474.1.length : Int) then (impl_ExpansionOf.l0 k a1 t478 (List.replicate (a1 : Int).toNat 0) (rd_L1 bt474.1 (wrap64 ((wrap64 (a0_0 - 1)) - a1))) ((rd_L1 bt474.1 (wrap64 ((wrap64 (a0_0 - 1)) - a1))).length : Int) 0) else (none)) else (none)) else (none)) else (none))) else (some (([] : List (List Int)), bt474.2)))) else (some (([] : List (List Int)), 5)))) else (some (([] : List (List Int)), 2)))) else (some (([] : List (List Int)), 1)))) = some (r1, r2) := h
 clear h
 replace H := Option.bind_eq_some_iff.mp H
 obtain ⟨t471, A30, H⟩ := H
 replace H : (if t471 = true then ((impl_within.f a1 1 (wrap64 (a0_0 - 1))).bind fun t472 => (if t472 = true then ((impl_isPure.f k a0_0 l0_1).bind fun t473 => (if t473 = true then ((impl_combOf.f k a0_0 l0_1).bind fun bt474 => (if bt474.2 = 0 then ((impl_zeroRows.f k a1).bind fun t478 => (if 0 ≤ a1 then (if (a1 : Int).toNat ≤ 35184372088832 then (if 0 ≤ (wrap64 ((wrap64 (a0_0 - 1)) - a1)) then (if (wrap64 ((wrap64 (a0_0 - 1)) - a1)) < (bt474.1.length : Int) then (impl_ExpansionOf.l0 k a1 t478 (List.replicate (a1 : Int).toNat 0) (rd_L1 bt474.1 (wrap64 ((wrap64 (a0_0 - 1)) - a1))) ((rd_L1 bt474.1 (wrap64 ((wrap64 (a0_0 - 1)) - a1))).length : Int) 0) else (none)) else (none)) else (none)) else (none))) else (some (([] : List (List Int)), bt474.2)))) else (some (([] : List (List Int)), 5)))) else (some (([] : List (List Int)), 2)))) else (some (([] : List (List Int)), 1))) = some (r1, r2) := H
 have A3 := Aside0.mk A30
 clear A30
 by_cases c4 : t471 = true
 ·subst c4
  have H1 : ((impl_within.f a1 1 (wrap64 (a0_0 - 1))).bind fun t472 => (if t472 = true then ((impl_isPure.f k a0_0 l0_1).bind fun t473 => (if t473 = true then ((impl_combOf.f k a0_0 l0_1).bind fun bt474 => (if bt474.2 = 0 then ((impl_zeroRows.f k a1).bind fun t478 => (if 0 ≤ a1 then (if (a1 : Int).toNat ≤ 35184372088832 then (if 0 ≤ (wrap64 ((wrap64 (a0_0 - 1)) - a1)) then (if (wrap64 ((wrap64 (a0_0 - 1)) - a1)) < (bt474.1.length : Int) then (impl_ExpansionOf.l0 k a1 t478 (List.replicate (a1 : Int).toNat 0) (rd_L1 bt474.1 (wrap64 ((wrap64 (a0_0 - 1)) - a1))) ((rd_L1 bt474.1 (wrap64 ((wrap64 (a0_0 - 1)) - a1))).length : Int) 0) else (none)) else (none)) else (none)) else (none))) else (some (([] : List (List Int)), bt474.2)))) else (some (([] : List (List Int)), 5)))) else (some (([] : List (List Int)), 2)))) = some (r1, r2) := by rw [if_pos rfl] at H; exact H
  clear H
  have H := H1
  clear H1
  replace H := Option.bind_eq_some_iff.mp H
  obtain ⟨t472, A50, H⟩ := H
  replace H : (if t472 = true then ((impl_isPure.f k a0_0 l0_1).bind fun t473 => (if t473 = true then ((impl_combOf.f k a0_0 l0_1).bind fun bt474 => (if bt474.2 = 0 then ((impl_zeroRows.f k a1).bind fun t478 => (if 0 ≤ a1 then (if (a1 : Int).toNat ≤ 35184372088832 then (if 0 ≤ (wrap64 ((wrap64 (a0_0 - 1)) - a1)) then (if (wrap64 ((wrap64 (a0_0 - 1)) - a1)) < (bt474.1.length : Int) then (impl_ExpansionOf.l0 k a1 t478 (List.replicate (a1 : Int).toNat 0) (rd_L1 bt474.1 (wrap64 ((wrap64 (a0_0 - 1)) - a1))) ((rd_L1 bt474.1 (wrap64 ((wrap64 (a0_0 - 1)) - a1))).length : Int) 0) else (none)) else (none)) else (none)) else (none))) else (some (([] : List (List Int)), bt474.2)))) else (some (([] : List (List Int)), 5)))) else (some (([] : List (List Int)), 2))) = some (r1, r2) := H
  have A5 := Aside0.mk A50
  clear A50
  by_cases c6 : t472 = true
  ·subst c6
   have H1 : ((impl_isPure.f k a0_0 l0_1).bind fun t473 => (if t473 = true then ((impl_combOf.f k a0_0 l0_1).bind fun bt474 => (if bt474.2 = 0 then ((impl_zeroRows.f k a1).bind fun t478 => (if 0 ≤ a1 then (if (a1 : Int).toNat ≤ 35184372088832 then (if 0 ≤ (wrap64 ((wrap64 (a0_0 - 1)) - a1)) then (if (wrap64 ((wrap64 (a0_0 - 1)) - a1)) < (bt474.1.length : Int) then (impl_ExpansionOf.l0 k a1 t478 (List.replicate (a1 : Int).toNat 0) (rd_L1 bt474.1 (wrap64 ((wrap64 (a0_0 - 1)) - a1))) ((rd_L1 bt474.1 (wrap64 ((wrap64 (a0_0 - 1)) - a1))).length : Int) 0) else (none)) else (none)) else (none)) else (none))) else (some (([] : List (List Int)), bt474.2)))) else (some (([] : List (List Int)), 5)))) = some (r1, r2) := by rw [if_pos rfl] at H; exact H
   clear H
   have H := H1
   clear H1
   replace H := Option.bind_eq_some_iff.mp H
   obtain ⟨t473, A70, H⟩ := H
   replace H : (if t473 = true then ((impl_combOf.f k a0_0 l0_1).bind fun bt474 => (if bt474.2 = 0 then ((impl_zeroRows.f k a1).bind fun t478 => (if 0 ≤ a1 then (if (a1 : Int).toNat ≤ 35184372088832 then (if 0 ≤ (wrap64 ((wrap64 (a0_0 - 1)) - a1)) then (if (wrap64 ((wrap64 (a0_0 - 1)) - a1)) < (bt474.1.length : Int) then (impl_ExpansionOf.l0 k a1 t478 (List.replicate (a1 : Int).toNat 0) (rd_L1 bt474.1 (wrap64 ((wrap64 (a0_0 - 1)) - a1))) ((rd_L1 bt474.1 (wrap64 ((wrap64 (a0_0 - 1)) - a1))).length : Int) 0) else (none)) else (none)) else (none)) else (none))) else (some (([] : List (List Int)), bt474.2)))) else (some (([] : List (List Int)), 5))) = some (r1, r2) := H
   have A7 := Aside0.mk A70
   clear A70
   by_cases c8 : t473 = true
   ·subst c8
    have H1 : ((impl_combOf.f k a0_0 l0_1).bind fun bt474 => (if bt474.2 = 0 then ((impl_zeroRows.f k a1).bind fun t478 => (if 0 ≤ a1 then (if (a1 : Int).toNat ≤ 35184372088832 then (if 0 ≤ (wrap64 ((wrap64 (a0_0 - 1)) - a1)) then (if (wrap64 ((wrap64 (a0_0 - 1)) - a1)) < (bt474.1.length : Int) then (impl_ExpansionOf.l0 k a1 t478 (List.replicate (a1 : Int).toNat 0) (rd_L1 bt474.1 (wrap64 ((wrap64 (a0_0 - 1)) - a1))) ((rd_L1 bt474.1 (wrap64 ((wrap64 (a0_0 - 1)) - a1))).length : Int) 0) else (none)) else (none)) else (none)) else (none))) else (some (([] : List (List Int)), bt474.2)))) = some (r1, r2) := by rw [if_pos rfl] at H; exact H
    clear H
    have H := H1
    clear H1
    replace H := Option.bind_eq_some_iff.mp H
    obtain ⟨⟨t474, t477⟩, A90, H⟩ := H
    replace H : (if t477 = 0 then ((impl_zeroRows.f k a1).bind fun t478 => (if 0 ≤ a1 then (if (a1 : Int).toNat ≤ 35184372088832 then (if 0 ≤ (wrap64 ((wrap64 (a0_0 - 1)) - a1)) then (if (wrap64 ((wrap64 (a0_0 - 1)) - a1)) < (t474.length : Int) then (impl_ExpansionOf.l0 k a1 t478 (List.replicate (a1 : Int).toNat 0) (rd_L1 t474 (wrap64 ((wrap64 (a0_0 - 1)) - a1))) ((rd_L1 t474 (wrap64 ((wrap64 (a0_0 - 1)) - a1))).length : Int) 0) else (none)) else (none)) else (none)) else (none))) else (some (([] : List (List Int)), t477))) = some (r1, r2) := H
    have A9 := Aside0.mk A90
    clear A90
    by_cases c10 : t477 = 0
    ·rw [if_pos c10] at H
     have c10b0 : (t477 == 0) = true := beq_iff_eq.mpr c10
     have c10b1 : (t477 != 0) = false := bne_eq_false_iff_eq.mpr c10
     clear c10
     replace H := Option.bind_eq_some_iff.mp H
     obtain ⟨t478, A110, H⟩ := H
     replace H : (if 0 ≤ a1 then (if (a1 : Int).toNat ≤ 35184372088832 then (if 0 ≤ (wrap64 ((wrap64 (a0_0 - 1)) - a1)) then (if (wrap64 ((wrap64 (a0_0 - 1)) - a1)) < (t474.length : Int) then (impl_ExpansionOf.l0 k a1 t478 (List.replicate (a1 : Int).toNat 0) (rd_L1 t474 (wrap64 ((wrap64 (a0_0 - 1)) - a1))) ((rd_L1 t474 (wrap64 ((wrap64 (a0_0 - 1)) - a1))).length : Int) 0) else (none)) else (none)) else (none)) else (none)) = some (r1, r2) := H
     have A11 := Aside0.mk A110
     clear A110
     by_cases c12 : 0 ≤ a1
     ·rw [if_pos c12] at H
      have c12b0 := eq_true c12
      have c12b1 : decide (0 ≤ a1) = true := decide_eq_true c12
      clear c12
      by_cases c13 : (a1 : Int).toNat ≤ 35184372088832
      ·rw [if_pos c13] at H
       have c13b0 := eq_true c13
       have c13b1 : decide ((a1 : Int).toNat ≤ 35184372088832) = true := decide_eq_true c13
       clear c13
       obtain ⟨y481, hy481⟩ : ∃ y_ : List Int, y_ = (List.replicate (a1 : Int).toNat 0) := ⟨_, rfl⟩
       replace H : (if 0 ≤ (wrap64 ((wrap64 (a0_0 - 1)) - a1)) then (if (wrap64 ((wrap64 (a0_0 - 1)) - a1)) < (t474.length : Int) then (impl_ExpansionOf.l0 k a1 t478 y481 (rd_L1 t474 (wrap64 ((wrap64 (a0_0 - 1)) - a1))) ((rd_L1 t474 (wrap64 ((wrap64 (a0_0 - 1)) - a1))).length : Int) 0) else (none)) else (none)) = some (r1, r2) := by first | (rw [hy481]; with_reducible exact H) | (have H2_ := (Option.bind_some _ _).symm.trans H; rw [hy481]; with_reducible exact H2_) | (have H2_ := (Option.bind_some _ _).symm.trans H; with_reducible exact H2_) | with_reducible exact H | (rw [hy481]; exact H) | exact H
       have Ny481 := Aside0.mk hy481
       clear hy481
       obtain ⟨ji14, hji14⟩ : ∃ j_ : Int, (wrap64 ((wrap64 (a0_0 - 1)) - a1)) = j_ := ⟨_, rfl⟩
       replace H : (if 0 ≤ (ji14) then (if (ji14) < (t474.length : Int) then (impl_ExpansionOf.l0 k a1 t478 y481 (rd_L1 t474 (ji14)) ((rd_L1 t474 (ji14)).length : Int) 0) else (none)) else (none)) = some (r1, r2) := by first | (rw [hji14] at H; exact H) | (simp only [hji14] at H ⊢; exact H)
       (try rw [hji14] at A3)
       (try rw [hji14] at A5)
       (try rw [hji14] at A7)
       (try rw [hji14] at A9)
       (try rw [hji14] at A11)
       have hji14w : (IntKind.i64.wrap ((wrap64 (a0_0 - 1)) - a1)) = ji14 := (i64_w _).trans hji14
       by_cases c15 : 0 ≤ (ji14)
       ·rw [if_pos c15] at H
        have c15b0 : decide (0 ≤ (ji14)) = true := decide_eq_true c15
        clear c15
        by_cases c16 : (ji14) < (t474.length : Int)
        ·rw [if_pos c16] at H
         have c16b0 : decide ((ji14) < (t474.length : Int)) = true := decide_eq_true c16
         clear c16
         have H' := Aside0.mk H
         clear H
         go_enter Try.func34, Try.ntmps34
         try go_wp2_with (first | ((with_reducible refine gate_dst (N := 2) rfl ?_); refine box_event ?hg (N := 2) ?hd (cs := #[.int .i64 a0_0, .slice A0_1 l0_1.length c0_1]) (t := 26) ?hr ?_; (case hd => rfl); (case hg => rfl); (case hr => first | (go_simp; done) | (go_simp; rfl)); intro gb470 hg w17 hbox hb; have n0_ := Aside0.mk (below_step hB_ hb); have n1_ := Aside0.mk (hbox); have n2_ := Aside0.mk ((by rw [hg]; exact (below_size hB_) : w.heap.size ≤ gb470)); have n3_ := Aside0.mk ((by rw [hg]; exact (below_size hB_) : w.heap.size ≤ gb470)); clear HB; have HB := n0_; have BK470 := n1_; have GW470 := n2_; have GE470 := n3_; clear n0_ n1_ n2_ n3_; clear hb hbox hg; have hcz18_0 : w17.cell? ⟨gb470, 0, none⟩ = some (.int .i64 a0_0) := (blk_cell BK470.out 0).trans rfl; have hcz18_1 : w17.cell? ⟨gb470, 1, none⟩ = some (.slice A0_1 l0_1.length c0_1) := (blk_cell BK470.out 1).trans rfl; have hfz18_0 := blk_frozen BK470.out 0; have hfz18_1 := blk_frozen BK470.out 1) | ((with_reducible refine gate_callee (f := 47) rfl ?_); refine goesL_ (some 16) rfl rfl Try.func47 (by kernel_rfl) rfl #[.agg #[.int .i64 a0_0, .slice A0_1 l0_1.length c0_1]] rfl (by (try simp only [List.map_toArray, List.map_cons, List.map_nil]); first | done | rfl | (simp only [List.length_drop, List.length_take]; rfl)) ?_; (with_reducible refine (impl_IsBraid.calls k a0_0 _ _ l0_1 true _ ?side1 ?side2 A3.out).mono ?_); (case side1 => repeat (first | exact (Kd.C_below HR0_1.out HB.out) | (with_reducible refine Kd.C_alloc ?_ _) | (with_reducible refine Kd.C_drewN ?_ _) | (with_reducible refine Kd.C_drew ?_))); (case side2 => exact HC0_1.out); rintro e w19 ⟨rfl, hb⟩; refine ⟨_, rfl, ?_⟩; have n0_ := Aside0.mk (blk_below (g := gb470) (o := .cells #[.int .i64 a0_0, .slice A0_1 l0_1.length c0_1] 26 (0, 0)) (by (with_reducible repeat (first | refine blk_drewN ?_ _ | refine blk_drew ?_ | refine blk_alloc ?_ _)); exact BK470.out) hb); have n1_ := Aside0.mk (below_step (by repeat (first | (with_reducible first | exact HB.out | apply below_alloc | apply pw_below_drewN | apply below_drew1 | refine below_set ?_ GE470.out) | exact HB.out)) hb); clear BK470; clear HB; have BK470 := n0_; have HB := n1_; clear n0_ n1_; (try clear hb); (try clear hb2); (try clear hk); (try clear hi); have hcz20_0 : w19.cell? ⟨gb470, 0, none⟩ = some (.int .i64 a0_0) := (blk_cell BK470.out 0).trans rfl; have hcz20_1 : w19.cell? ⟨gb470, 1, none⟩ = some (.slice A0_1 l0_1.length c0_1) := (blk_cell BK470.out 1).trans rfl; have hfz20_0 := blk_frozen BK470.out 0; have hfz20_1 := blk_frozen BK470.out 1) | ((with_reducible refine gate_callee (f := 48) rfl ?_); refine goesL_ (some 23) rfl rfl Try.func48 (by kernel_rfl) rfl #[.int .i64 a1, .int .i64 1, .int .i64 (wrap64 (a0_0 - 1))] rfl (by (try simp only [List.map_toArray, List.map_cons, List.map_nil]); first | done | rfl | (simp only [List.length_drop, List.length_take]; rfl)) ?_; (with_reducible refine (impl_within.calls a1 1 (wrap64 (a0_0 - 1)) true _ A5.out).mono ?_); rintro e w' ⟨rfl, ⟨nd, rfl⟩⟩; refine ⟨_, rfl, ?_⟩) | ((with_reducible refine gate_callee (f := 70) rfl ?_); refine goesL_ (some 27) rfl rfl Try.func70 (by kernel_rfl) rfl #[.agg #[.int .i64 a0_0, .slice A0_1 l0_1.length c0_1]] rfl (by (try simp only [List.map_toArray, List.map_cons, List.map_nil]); first | done | rfl | (simp only [List.length_drop, List.length_take]; rfl)) ?_; (with_reducible refine (impl_isPure.calls k a0_0 _ _ l0_1 true _ ?side1 ?side2 A7.out).mono ?_); (case side1 => repeat (first | exact (Kd.C_below HR0_1.out (by repeat (first | (with_reducible first | exact HB.out | apply below_alloc | apply pw_below_drewN | apply below_drew1 | refine below_set ?_ GE470.out) | exact HB.out))) | (with_reducible refine Kd.C_alloc ?_ _) | (with_reducible refine Kd.C_drewN ?_ _) | (with_reducible refine Kd.C_drew ?_))); (case side2 => exact HC0_1.out); rintro e w21 ⟨rfl, hb⟩; refine ⟨_, rfl, ?_⟩; have n0_ := Aside0.mk (blk_below (g := gb470) (o := .cells #[.int .i64 a0_0, .slice A0_1 l0_1.length c0_1] 26 (0, 0)) (by (with_reducible repeat (first | refine blk_drewN ?_ _ | refine blk_drew ?_ | refine blk_alloc ?_ _)); exact BK470.out) hb); have n1_ := Aside0.mk (below_step (by repeat (first | (with_reducible first | exact HB.out | apply below_alloc | apply pw_below_drewN | apply below_drew1 | refine below_set ?_ GE470.out) | exact HB.out)) hb); clear BK470; clear HB; have BK470 := n0_; have HB := n1_; clear n0_ n1_; (try clear hb); (try clear hb2); (try clear hk); (try clear hi); have hcz22_0 : w21.cell? ⟨gb470, 0, none⟩ = some (.int .i64 a0_0) := (blk_cell BK470.out 0).trans rfl; have hcz22_1 : w21.cell? ⟨gb470, 1, none⟩ = some (.slice A0_1 l0_1.length c0_1) := (blk_cell BK470.out 1).trans rfl; have hfz22_0 := blk_frozen BK470.out 0; have hfz22_1 := blk_frozen BK470.out 1) | ((with_reducible refine gate_callee (f := 71) rfl ?_); refine goesL_ (some 31) rfl rfl Try.func71 (by kernel_rfl) rfl #[.agg #[.int .i64 a0_0, .slice A0_1 l0_1.length c0_1]] rfl (by (try simp only [List.map_toArray, List.map_cons, List.map_nil]); first | done | rfl | (simp only [List.length_drop, List.length_take]; rfl)) ?_; (with_reducible refine (impl_combOf.calls k a0_0 (fun k_ => k_ < w.heap.size) _ _ l0_1 t474 t477 _ ?side1 A9.out).mono ?_); (case side1 => exact Kd.V_mk HC0_1.out (Kd.F_below (Kd.C_F (Kd.heap_int .i64) HR0_1.out) (by repeat (first | (with_reducible first | exact HB.out | apply below_alloc | apply pw_below_drewN | apply below_drew1 | refine below_set ?_ GE470.out) | exact HB.out)))); rintro e w23 ⟨v475, rfl, ho0, hb⟩; refine ⟨_, rfl, ?_⟩; have n0_ := Aside0.mk (Kd.S_lower (Kd.S_mono (ok' := fun k_ => True) ho0 (fun _ hk_ => trivial)) (below_size (by repeat (first | (with_reducible first | exact HB.out | apply below_alloc | apply pw_below_drewN | apply below_drew1 | refine below_set ?_ GE470.out) | exact HB.out)))); have n1_ := Aside0.mk (blk_below (g := gb470) (o := .cells #[.int .i64 a0_0, .slice A0_1 l0_1.length c0_1] 26 (0, 0)) (by (with_reducible repeat (first | refine blk_drewN ?_ _ | refine blk_drew ?_ | refine blk_alloc ?_ _)); exact BK470.out) hb); have n2_ := Aside0.mk (below_step (by repeat (first | (with_reducible first | exact HB.out | apply below_alloc | apply pw_below_drewN | apply below_drew1 | refine below_set ?_ GE470.out) | exact HB.out)) hb); clear BK470; clear HB; have HO476 := n0_; have BK470 := n1_; have HB := n2_; clear n0_ n1_ n2_; (try clear hb); (try clear hb2); (try clear hk); (try clear hi); (try clear ho0)))
         have n0_ := Aside0.mk (Kd.S_drew HO476.out)
         have n1_ := Aside0.mk (blk_drew BK470.out)
         have n2_ := Aside0.mk (below_drew1 HB.out)
         clear HO476
         clear BK470
         clear HB
         have HO476 := n0_
         have BK470 := n1_
         have HB := n2_
         clear n0_ n1_ n2_
         refine start_ (n := 6) (S := fun w' => True) (ds := []) #[false, false, false, false, false, false] (by kernel_rfl) rfl rfl trivial (fun hHeld => ?_)
         generalize w23.drew = w24 at HO476 BK470 HB hHeld ⊢
         have HOz_ := Aside0.mk HO476.out
         have HBs_ := Aside0.mk HB.out
         clear HB
         have HB := Aside0.mk (Below.refl w24.heap.size w24)
         refine pure_ (i := 0) (N := some 37) (v := ?_) (a' := ?_) #[true, false, false, false, false, false] rfl rfl (by kernel_rfl) (fun _ _ _ h => h) (Or.inl ⟨by rfl, ?_⟩) ?_ ?_
         rotate_left
         ·intro w'
          go_simp
          with_reducible rfl
         rotate_left
         ·simp only [Act.put, List.setIfInBounds_toArray, List.set_cons_zero, List.set_cons_succ, i64_w, i32_w]
          rfl
         refine pure_ (i := 2) (N := some 39) (v := ?_) (a' := ?_) #[true, false, true, false, false, false] rfl rfl (by kernel_rfl) (fun _ _ _ h => h) (Or.inl ⟨by rfl, ?_⟩) ?_ ?_
         rotate_left
         ·intro w'
          go_simp
          with_reducible rfl
         rotate_left
         ·simp only [Act.put, List.setIfInBounds_toArray, List.set_cons_zero, List.set_cons_succ, i64_w, i32_w]
          rfl
         refine join_ (σ := Value × Value) 1 #[true, true, true, true, true, false] (fun s_ => [(38, s_.1), (40, s_.2), (8, s_.1)]) (fun s_ w' => (Kd.S (Kd.slice 2 (Kd.int .i64)) 22 w' w.heap.size (fun k_ => some k_ ≠ (s_.1 : Value).ownBlock ∧ some k_ ≠ (s_.2 : Value).ownBlock) v475 t474) ∧ (Kd.S (Kd.slice 2 (Kd.int .i64)) 22 w' w24.heap.size (fun k_ => some k_ ≠ (v475 : Value).ownBlock ∧ some k_ ≠ (s_.2 : Value).ownBlock) s_.1 t478) ∧ (Kd.R (Kd.int .i64) 2 w' w24.heap.size (fun _ => True) s_.2 y481) ∧ (w'.heap[gb470]? = some (.cells #[.int .i64 a0_0, .slice A0_1 l0_1.length c0_1] 26 (0, 0))) ∧ (Below w24.heap.size w24 w')) ?_ ?_
         rotate_left
         ·intro hCont
          refine two_ (i := 1) (j := 3) (Ni := some 38) (Nj := some 40) #[true, true, true, false, false, false] #[true, false, true, true, false, false] rfl rfl rfl rfl (by kernel_rfl) (by decide) (by decide) (fun K hK => ?_) (fun K hK => ?_)
          ·skip
           refine goes_ Try.func72 (by kernel_rfl) rfl #[.int .i64 a1] (by rfl) rfl rfl (by (try simp only [List.map_toArray, List.map_cons, List.map_nil]); first | done | rfl | (simp only [List.length_drop, List.length_take]; rfl)) ?_
           with_reducible refine (impl_zeroRows.calls k a1 t478 _ A11.out).mono ?_
           rintro e w25 ⟨v479, rfl, ho0, hb⟩
           refine ⟨_, rfl, ?_⟩
           have n0_ := Aside0.mk (Kd.S_elder' (by (with_reducible repeat (first | apply Kd.S_alloc | apply Kd.S_drewN | apply Kd.S_drew)); exact HO476.out) (Kd.S_base ho0) hb)
           have n1_ := Aside0.mk (Kd.S_lower (Kd.S_new' ho0 (Kd.S_lt (by (with_reducible repeat (first | apply Kd.S_alloc | apply Kd.S_drewN | apply Kd.S_drew)); exact HO476.out))) (below_size (by repeat (first | (with_reducible first | exact HB.out | apply below_alloc | apply pw_below_drewN | apply below_drew1 | refine below_set ?_ GE470.out) | exact HB.out))))
           have n2_ := Aside0.mk (blk_below (g := gb470) (o := .cells #[.int .i64 a0_0, .slice A0_1 l0_1.length c0_1] 26 (0, 0)) (by (with_reducible repeat (first | refine blk_drewN ?_ _ | refine blk_drew ?_ | refine blk_alloc ?_ _)); exact BK470.out) hb)
           have n3_ := Aside0.mk (below_step (by repeat (first | (with_reducible first | exact HB.out | apply below_alloc | apply pw_below_drewN | apply below_drew1 | refine below_set ?_ GE470.out) | exact HB.out)) hb)
           clear HO476
           clear BK470
           clear HB
           have HO476 := n0_
           have HO480 := n1_
           have BK470 := n2_
           have HB := n3_
           clear n0_ n1_ n2_ n3_
           (try clear hb)
           (try clear hb2)
           (try clear hk)
           (try clear hi)
           (try clear ho0)
           refine hK.out _ _ trivial (fun hHeld => ?_)
           clear hK K
           refine norm_ (a' := ?_) ?_ ?_
           rotate_left
           ·show Act.put _ (some 38) _ = _
            simp only [Act.put, List.setIfInBounds_toArray, List.set_cons_zero, List.set_cons_succ, i64_w, i32_w]
            rfl
           refine pure_ (i := 4) (N := some 8) (v := ?_) (a' := ?_) #[true, true, true, false, true, false] rfl rfl (by kernel_rfl) (fun _ _ _ h => h) (Or.inl ⟨by rfl, ?_⟩) ?_ ?_
           rotate_left
           ·intro w'
            go_simp
            with_reducible rfl
           rotate_left
           ·simp only [Act.put, List.setIfInBounds_toArray, List.set_cons_zero, List.set_cons_succ, i64_w, i32_w]
            rfl
           refine one_ (i := 3) (N := some 40) #[true, true, true, true, true, false] rfl rfl (by kernel_rfl) (by decide) (fun K hK => ?_)
           refine Kd.R_make_step (Kd.int .i64) _ 2 (by rfl) (N := 40) rfl 22 _ _ rfl a1 rfl rfl Try.underlying22 (.int .i64 0) 8 info2 rfl (by decide) (by omega) 0 (ok := fun _ => True) (okp := fun _ => True) rfl (fun _ hk => hk) trivial (of_decide_eq_true as_) (Nat.le_trans (Nat.mul_le_mul_right _ (of_decide_eq_true as_ : a1.toNat ≤ 35184372088832)) (by omega)) (Below.refl _ _) (Nat.le_refl _) ?_
           intro v482 w26 ho27 hb hg_ hnew_
           clear hg_ hnew_
           (first | rw [← Ny481.out] at ho27 | (simp only [Int.reduceToNat] at ho27; rw [← Ny481.out] at ho27))
           have n0_ := Aside0.mk (Kd.S_elder' (by (with_reducible repeat (first | apply Kd.S_alloc | apply Kd.S_drewN | apply Kd.S_drew)); exact HO476.out) (Kd.R_base ho27) hb)
           have n1_ := Aside0.mk (Kd.S_elder' (by (with_reducible repeat (first | apply Kd.S_alloc | apply Kd.S_drewN | apply Kd.S_drew)); exact HO480.out) (Kd.R_base ho27) hb)
           have n2_ := Aside0.mk (Kd.R_lower ho27 (below_size (by repeat (first | (with_reducible first | exact HB.out | apply below_alloc | apply pw_below_drewN | apply below_drew1 | refine below_set ?_ GE470.out) | exact HB.out))))
           have n3_ := Aside0.mk (blk_below (g := gb470) (o := .cells #[.int .i64 a0_0, .slice A0_1 l0_1.length c0_1] 26 (0, 0)) (by (with_reducible repeat (first | refine blk_drewN ?_ _ | refine blk_drew ?_ | refine blk_alloc ?_ _)); exact BK470.out) hb)
           have n4_ := Aside0.mk (below_step (by repeat (first | (with_reducible first | exact HB.out | apply below_alloc | apply pw_below_drewN | apply below_drew1 | refine below_set ?_ GE470.out) | exact HB.out)) hb)
           clear HO476
           clear HO480
           clear BK470
           clear HB
           have HO476 := n0_
           have HO480 := n1_
           have HO483 := n2_
           have BK470 := n3_
           have HB := n4_
           clear n0_ n1_ n2_ n3_ n4_
           clear hb ho27
           refine hK.out _ _ trivial (fun hHeld => ?_)
           clear hK K
           refine norm_ (a' := ?_) ?_ ?_
           rotate_left
           ·show Act.put _ (some 40) _ = _
            simp only [Act.put, List.setIfInBounds_toArray, List.set_cons_zero, List.set_cons_succ, i64_w, i32_w]
            rfl
           exact norm_ (by simp only [putAll, Act.put, List.setIfInBounds_toArray, List.set_cons_zero, List.set_cons_succ]) (hCont (v479, v482) _ ⟨(by (with_reducible repeat (first | apply Kd.S_alloc | apply Kd.S_drewN | apply Kd.S_drew)); exact Kd.S_mono HO476.out (fun _ hk => ⟨hk.1.2, hk.2⟩)), (by (with_reducible repeat (first | apply Kd.S_alloc | apply Kd.S_drewN | apply Kd.S_drew)); exact Kd.S_mono HO480.out (fun _ hk => ⟨hk.1.2, hk.2⟩)), (by (with_reducible repeat (first | apply Kd.R_alloc | apply Kd.R_drewN | apply Kd.R_drew)); exact HO483.out), (by (with_reducible repeat (first | refine blk_drewN ?_ _ | refine blk_drew ?_ | refine blk_alloc ?_ _)); exact BK470.out), (by repeat (first | (with_reducible first | exact HB.out | apply below_alloc | apply pw_below_drewN | apply below_drew1 | refine below_set ?_ GE470.out) | exact HB.out))⟩)
          ·skip
           refine Kd.R_make_step (Kd.int .i64) _ 2 (by rfl) (N := 40) rfl 22 _ _ rfl a1 rfl rfl Try.underlying22 (.int .i64 0) 8 info2 rfl (by decide) (by omega) 0 (ok := fun _ => True) (okp := fun _ => True) rfl (fun _ hk => hk) trivial (of_decide_eq_true as_) (Nat.le_trans (Nat.mul_le_mul_right _ (of_decide_eq_true as_ : a1.toNat ≤ 35184372088832)) (by omega)) (Below.refl _ _) (Nat.le_refl _) ?_
           intro v482 w25 ho26 hb hg_ hnew_
           clear hg_ hnew_
           (first | rw [← Ny481.out] at ho26 | (simp only [Int.reduceToNat] at ho26; rw [← Ny481.out] at ho26))
           have n0_ := Aside0.mk (Kd.S_elder' (by (with_reducible repeat (first | apply Kd.S_alloc | apply Kd.S_drewN | apply Kd.S_drew)); exact HO476.out) (Kd.R_base ho26) hb)
           have n1_ := Aside0.mk (Kd.R_lower ho26 (below_size (by repeat (first | (with_reducible first | exact HB.out | apply below_alloc | apply pw_below_drewN | apply below_drew1 | refine below_set ?_ GE470.out) | exact HB.out))))
           have n2_ := Aside0.mk (blk_below (g := gb470) (o := .cells #[.int .i64 a0_0, .slice A0_1 l0_1.length c0_1] 26 (0, 0)) (by (with_reducible repeat (first | refine blk_drewN ?_ _ | refine blk_drew ?_ | refine blk_alloc ?_ _)); exact BK470.out) hb)
           have n3_ := Aside0.mk (below_step (by repeat (first | (with_reducible first | exact HB.out | apply below_alloc | apply pw_below_drewN | apply below_drew1 | refine below_set ?_ GE470.out) | exact HB.out)) hb)
           clear HO476
           clear BK470
           clear HB
           have HO476 := n0_
           have HO483 := n1_
           have BK470 := n2_
           have HB := n3_
           clear n0_ n1_ n2_ n3_
           clear hb ho26
           refine hK.out _ _ trivial (fun hHeld => ?_)
           clear hK K
           refine norm_ (a' := ?_) ?_ ?_
           rotate_left
           ·show Act.put _ (some 40) _ = _
            simp only [Act.put, List.setIfInBounds_toArray, List.set_cons_zero, List.set_cons_succ, i64_w, i32_w]
            rfl
           refine one_ (i := 1) (N := some 38) #[true, true, true, true, false, false] rfl rfl (by kernel_rfl) (by decide) (fun K hK => ?_)
           refine goes_ Try.func72 (by kernel_rfl) rfl #[.int .i64 a1] (by rfl) rfl rfl (by (try simp only [List.map_toArray, List.map_cons, List.map_nil]); first | done | rfl | (simp only [List.length_drop, List.length_take]; rfl)) ?_
           with_reducible refine (impl_zeroRows.calls k a1 t478 _ A11.out).mono ?_
           rintro e w27 ⟨v479, rfl, ho0, hb⟩
           refine ⟨_, rfl, ?_⟩
           have n0_ := Aside0.mk (Kd.S_elder' (by (with_reducible repeat (first | apply Kd.S_alloc | apply Kd.S_drewN | apply Kd.S_drew)); exact HO476.out) (Kd.S_base ho0) hb)
           have n1_ := Aside0.mk (Kd.R_below (by (with_reducible repeat (first | apply Kd.R_alloc | apply Kd.R_drewN | apply Kd.R_drew)); exact HO483.out) hb)
           have n2_ := Aside0.mk (Kd.S_lower (Kd.S_new' (Kd.S_new' ho0 (Kd.S_lt (by (with_reducible repeat (first | apply Kd.S_alloc | apply Kd.S_drewN | apply Kd.S_drew)); exact HO476.out))) (Kd.R_lt (by (with_reducible repeat (first | apply Kd.R_alloc | apply Kd.R_drewN | apply Kd.R_drew)); exact HO483.out))) (below_size (by repeat (first | (with_reducible first | exact HB.out | apply below_alloc | apply pw_below_drewN | apply below_drew1 | refine below_set ?_ GE470.out) | exact HB.out))))
           have n3_ := Aside0.mk (blk_below (g := gb470) (o := .cells #[.int .i64 a0_0, .slice A0_1 l0_1.length c0_1] 26 (0, 0)) (by (with_reducible repeat (first | refine blk_drewN ?_ _ | refine blk_drew ?_ | refine blk_alloc ?_ _)); exact BK470.out) hb)
           have n4_ := Aside0.mk (below_step (by repeat (first | (with_reducible first | exact HB.out | apply below_alloc | apply pw_below_drewN | apply below_drew1 | refine below_set ?_ GE470.out) | exact HB.out)) hb)
           clear HO476
           clear HO483
           clear BK470
           clear HB
           have HO476 := n0_
           have HO483 := n1_
           have HO480 := n2_
           have BK470 := n3_
           have HB := n4_
           clear n0_ n1_ n2_ n3_ n4_
           (try clear hb)
           (try clear hb2)
           (try clear hk)
           (try clear hi)
           (try clear ho0)
           refine hK.out _ _ trivial (fun hHeld => ?_)
           clear hK K
           refine norm_ (a' := ?_) ?_ ?_
           rotate_left
           ·show Act.put _ (some 38) _ = _
            simp only [Act.put, List.setIfInBounds_toArray, List.set_cons_zero, List.set_cons_succ, i64_w, i32_w]
            rfl
           refine pure_ (i := 4) (N := some 8) (v := ?_) (a' := ?_) #[true, true, true, true, true, false] rfl rfl (by kernel_rfl) (fun _ _ _ h => h) (Or.inl ⟨by rfl, ?_⟩) ?_ ?_
           rotate_left
           ·intro w'
            go_simp
            with_reducible rfl
           rotate_left
           ·simp only [Act.put, List.setIfInBounds_toArray, List.set_cons_zero, List.set_cons_succ, i64_w, i32_w]
            rfl
           exact norm_ (by simp only [putAll, Act.put, List.setIfInBounds_toArray, List.set_cons_zero, List.set_cons_succ]) (hCont (v479, v482) _ ⟨(by (with_reducible repeat (first | apply Kd.S_alloc | apply Kd.S_drewN | apply Kd.S_drew)); exact Kd.S_mono HO476.out (fun _ hk => ⟨hk.2, hk.1.2⟩)), (by (with_reducible repeat (first | apply Kd.S_alloc | apply Kd.S_drewN | apply Kd.S_drew)); exact Kd.S_mono HO480.out (fun _ hk => ⟨hk.1.2, hk.2⟩)), (by (with_reducible repeat (first | apply Kd.R_alloc | apply Kd.R_drewN | apply Kd.R_drew)); exact HO483.out), (by (with_reducible repeat (first | refine blk_drewN ?_ _ | refine blk_drew ?_ | refine blk_alloc ?_ _)); exact BK470.out), (by repeat (first | (with_reducible first | exact HB.out | apply below_alloc | apply pw_below_drewN | apply below_drew1 | refine below_set ?_ GE470.out) | exact HB.out))⟩)
         rintro ⟨v479, v482⟩ w28 ⟨h0_, h1_, h2_, h3_, h4_⟩
         have n0_ : Aside0 (Kd.S (Kd.slice 2 (Kd.int .i64)) 22 w28 w.heap.size (fun k_ => some k_ ≠ (v479 : Value).ownBlock ∧ some k_ ≠ (v482 : Value).ownBlock) v475 t474) := ⟨h0_⟩
         have n1_ : Aside0 (Kd.S (Kd.slice 2 (Kd.int .i64)) 22 w28 w24.heap.size (fun k_ => some k_ ≠ (v475 : Value).ownBlock ∧ some k_ ≠ (v482 : Value).ownBlock) v479 t478) := ⟨h1_⟩
         have n2_ : Aside0 (Kd.R (Kd.int .i64) 2 w28 w24.heap.size (fun _ => True) v482 y481) := ⟨h2_⟩
         have n3_ : Aside0 (w28.heap[gb470]? = some (.cells #[.int .i64 a0_0, .slice A0_1 l0_1.length c0_1] 26 (0, 0))) := ⟨h3_⟩
         have n4_ : Aside0 (Below w24.heap.size w24 w28) := ⟨h4_⟩
         clear HO476
         clear BK470
         clear HB
         clear h0_ h1_ h2_ h3_ h4_
         have HO476 := n0_
         have HO480 := n1_
         have HO483 := n2_
         have BK470 := n3_
         have HB := n4_
         clear n0_ n1_ n2_ n3_ n4_
         have hHeld := trivial
         refine norm_ (a' := ?_) ?_ ?_
         rotate_left
         ·simp only [putAll, Act.put, List.setIfInBounds_toArray, List.set_cons_zero, List.set_cons_succ]
          rfl
         refine pure_ (i := 5) (N := some 9) (v := ?_) (a' := ?_) #[true, true, true, true, true, true] rfl rfl (by kernel_rfl) (fun _ _ _ h => h) (Or.inl ⟨by rfl, ?_⟩) ?_ ?_
         rotate_left
         ·intro w'
          go_simp
          with_reducible rfl
         rotate_left
         ·simp only [Act.put, List.setIfInBounds_toArray, List.set_cons_zero, List.set_cons_succ, i64_w, i32_w]
          rfl
         refine done_ (by kernel_rfl) ?_
         have hcz29_0 : w28.cell? ⟨gb470, 0, none⟩ = some (.int .i64 a0_0) := (blk_cell BK470.out 0).trans rfl
         have hcz29_1 : w28.cell? ⟨gb470, 1, none⟩ = some (.slice A0_1 l0_1.length c0_1) := (blk_cell BK470.out 1).trans rfl
         have hfz29_0 := blk_frozen BK470.out 0
         have hfz29_1 := blk_frozen BK470.out 1
         obtain ⟨Ao30, co30, eo30⟩ := Kd.S_slice HO476.out
         subst eo30
         have p484 : 0 ≤ ((ji14) : Int) := of_decide_eq_true as_
         have q484 : (ji14) < (t474.length : Int) := of_decide_eq_true as_
         obtain ⟨ad484, A484_0, c484_0, e484, hx484_0, hl484_0, hi484_0⟩ := at_L1 (Kd.S_reads' HO476.out).2.2 (ji14) p484 q484
         cases e484
         obtain ⟨adz_, Az_, cz_, ez_, hxz_, hlz_, hiz_⟩ := at_L1 (Kd.S_reads' HOz_.out).2.2 (ji14) p484 q484
         obtain rfl : ad484 = adz_ := (by injection ez_)
         have hz_ := (HB.out.cell (World.block_lt_of_cell? w24 _ hxz_)).trans hxz_
         have he_ := Option.some.inj (hx484_0.symm.trans hz_)
         injection he_ with e1_ e2_ e3_
         subst e1_
         have HIZ_ := Aside0.mk hiz_
         clear hz_ hxz_ hlz_ hiz_ e2_ e3_ ez_ HOz_
         obtain ⟨ce484, hce484, hMe484, hcc484⟩ := Kd.S_get HO476.out [] (ji14) p484 (by first | exact q484 | exact of_decide_eq_true as_ | (have e_ := (Kd.S_reads' HO476.out).1; omega))
         obtain ⟨ve484_0, rfl, ge484_0⟩ := hMe484
         have hv484_0 := hcc484 0 _ rfl
         rw [Nat.add_zero, show ((Kd.slice 2 (Kd.int .i64))).sz = 1 from rfl, Nat.mul_one] at hv484_0
         replace hv484_0 := Option.some.inj (hv484_0.symm.trans hx484_0)
         rw [hv484_0] at ge484_0
         have HL484_0 := Aside0.mk (show Kd.R (Kd.int .i64) 2 _ _ _ _ (rd_L1 t474 (ji14)) from ge484_0)
         clear hv484_0 ge484_0
         have HX484_0 := Aside0.mk hx484_0
         clear hcc484 hce484
         have HR484_0 := HIZ_
         have HC484_0 := Aside0.mk hl484_0
         clear hi484_0 hl484_0
         replace p484 := eq_true p484
         replace q484 := eq_true q484
         try go_wp2
         go_loopg [50] k (fun kq v50 w' => ∃ (x8_1 : List (List Int)) (x9_1 : List Int) (x50_1 : Int), v50 = .int .i64 x50_1 ∧ Aside0 (impl_ExpansionOf.l0 kq a1 x8_1 x9_1 (rd_L1 t474 (ji14)) ((rd_L1 t474 (ji14)).length : Int) x50_1 = some (r1, r2)) ∧ Aside0 (kq ≤ k) ∧ Aside0 (Kd.S (Kd.slice 2 (Kd.int .i64)) 22 w' w24.heap.size (fun k_ => some k_ ≠ (v482 : Value).ownBlock) v479 x8_1) ∧ Aside0 (Kd.R (Kd.int .i64) 2 w' w24.heap.size (fun _ => True) v482 x9_1) ∧ Aside0 (w'.heap[gb470]? = some (.cells #[.int .i64 a0_0, (.slice A0_1 l0_1.length c0_1)] 26 (0, 0))) ∧ Aside0 (Below w24.heap.size w24 w'))
         case atStart => exact ⟨(t478), (y481), (0), (by first | rfl | (simp; done) | (simp [*]; done)), H', ⟨Nat.le_refl _⟩, ⟨by (with_reducible repeat (first | apply Kd.S_alloc | apply Kd.S_drewN | apply Kd.S_drew)); exact Kd.S_mono HO480.out (fun _ hk => hk.2)⟩, ⟨by (with_reducible repeat (first | apply Kd.R_alloc | apply Kd.R_drewN | apply Kd.R_drew)); exact HO483.out⟩, ⟨by (with_reducible repeat (first | refine blk_drewN ?_ _ | refine blk_drew ?_ | refine blk_alloc ?_ _)); exact BK470.out⟩, ⟨by repeat (first | (with_reducible first | exact HB.out | apply below_alloc | apply pw_below_drewN | apply below_drew1 | refine below_set ?_ GE470.out) | exact HB.out)⟩⟩
         case round =>
          clear H'
          try clear c1
          try clear p2
          try clear c3
          try clear c4
          try clear p4
          try clear q4
          try clear hx4
          try clear c6
          try clear p6
          try clear c7
          try clear c8
          try clear c10
          try clear c10b0
          try clear c10b1
          try clear c12
          try clear c12b0
          try clear c12b1
          try clear c13
          try clear c13b0
          try clear c13b1
          try clear c15
          try clear c15b0
          try clear c16
          try clear c16b0
          try clear hcz18_0
          try clear hcz18_1
          try clear hcz20_0
          try clear hcz20_1
          try clear hcz22_0
          try clear hcz22_1
          try clear hcz29_0
          try clear hcz29_1
          try clear hfz18_0
          try clear hfz18_1
          try clear hfz20_0
          try clear hfz20_1
          try clear hfz22_0
          try clear hfz22_1
          try clear hfz29_0
          try clear hfz29_1
          try clear hx484_0
          try clear p484
          try clear q484
          obtain ⟨x8_1, x9_1, x50_1, rfl, HA, HK1, HO_8, HO_9, BK470, HB⟩ := hrel
          cases gk with
          | zero => exact absurd HA.out (by simp [impl_ExpansionOf.l0])
          | succ k1 =>
           have H := HA.out
           clear HA
           simp only [impl_ExpansionOf.l0] at H
           by_cases c31 : x50_1 < ((rd_L1 t474 (ji14)).length : Int)
           ·rw [if_pos c31] at H
            have c31b0 : decide (x50_1 < ((rd_L1 t474 (ji14)).length : Int)) = true := decide_eq_true c31
            clear c31
            by_cases c32 : 0 ≤ x50_1
            ·rw [if_pos c32] at H
             have c32b0 : decide (0 ≤ x50_1) = true := decide_eq_true c32
             clear c32
             by_cases c33 : x50_1 < ((rd_L1 t474 (ji14)).length : Int)
             ·rw [if_pos c33] at H
              have c33b0 : decide (x50_1 < ((rd_L1 t474 (ji14)).length : Int)) = true := decide_eq_true c33
              clear c33
              replace H := Option.bind_eq_some_iff.mp H
              obtain ⟨t486, A340, H⟩ := H
              replace H : (impl_ExpansionOf.l1 k1 a1 x8_1 x9_1 (rd (rd_L1 t474 (ji14)) x50_1) (wrap64 (t486 - 1)) (rd_L1 t474 (ji14)) ((rd_L1 t474 (ji14)).length : Int) x50_1 a1 0) = some (r1, r2) := H
              have A34 := Aside0.mk A340
              clear A340
              have H' := Aside0.mk H
              clear H
              have p485 : 0 ≤ (x50_1 : Int) := of_decide_eq_true as_
              have q485 : x50_1 < ((rd_L1 t474 (ji14)).length : Int) := of_decide_eq_true as_
              obtain ⟨ad485, e485, hx485_0⟩ := Kd.at_int HR484_0.out x50_1 p485 q485
              cases e485
              replace hx485_0 := (HB.out.cell (World.block_lt_of_cell? w24 _ hx485_0)).trans hx485_0
              replace p485 := eq_true p485
              replace q485 := eq_true q485
              go_wp2_with (first | ((with_reducible refine gate_callee (f := 50) rfl ?_); refine goesL_ (some 55) rfl rfl Try.func50 (by kernel_rfl) rfl #[.int .i64 (rd (rd_L1 t474 (ji14)) x50_1)] rfl (by (try simp only [List.map_toArray, List.map_cons, List.map_nil]); first | done | (simp only [hji14]; rfl) | rfl | (simp only [List.length_drop, List.length_take]; rfl)) ?_; (with_reducible refine (impl_size.calls (rd (rd_L1 t474 (ji14)) x50_1) t486 _ A34.out).mono ?_); rintro e w' ⟨rfl, ⟨nd, rfl⟩⟩; refine ⟨_, rfl, ?_⟩))
              generalize wrap64 (t486 - 1) = ji38 at H' ⊢
              go_loopg [58] k1 (fun kq v58 w' => ∃ (x8_2 : List (List Int)) (x9_2 : List Int) (x58_2 : Int), v58 = .int .i64 x58_2 ∧ Aside0 (impl_ExpansionOf.l1 kq a1 x8_2 x9_2 (rd (rd_L1 t474 (ji14)) x50_1) (ji38) (rd_L1 t474 (ji14)) ((rd_L1 t474 (ji14)).length : Int) x50_1 a1 x58_2 = some (r1, r2)) ∧ Aside0 (kq ≤ k1) ∧ Aside0 (Kd.S (Kd.slice 2 (Kd.int .i64)) 22 w' w24.heap.size (fun k_ => some k_ ≠ (v482 : Value).ownBlock) v479 x8_2) ∧ Aside0 (Kd.R (Kd.int .i64) 2 w' w24.heap.size (fun _ => True) v482 x9_2) ∧ Aside0 (w'.heap[gb470]? = some (.cells #[.int .i64 a0_0, (.slice A0_1 l0_1.length c0_1)] 26 (0, 0))) ∧ Aside0 (Below w24.heap.size w24 w'))
              case atStart => exact ⟨(x8_1), (x9_1), (0), (by first | rfl | (simp; done) | (simp [*]; done)), H', ⟨Nat.le_refl _⟩, ⟨by (with_reducible repeat (first | apply Kd.S_alloc | apply Kd.S_drewN | apply Kd.S_drew)); exact HO_8.out⟩, ⟨by (with_reducible repeat (first | apply Kd.R_alloc | apply Kd.R_drewN | apply Kd.R_drew)); exact HO_9.out⟩, ⟨by (with_reducible repeat (first | refine blk_drewN ?_ _ | refine blk_drew ?_ | refine blk_alloc ?_ _)); exact BK470.out⟩, ⟨by repeat (first | (with_reducible first | exact HB.out | apply below_alloc | apply pw_below_drewN | apply below_drew1 | refine below_set ?_ GE470.out) | exact HB.out)⟩⟩
              case round =>
               clear H'
               try clear c1
               try clear p2
               try clear c3
               try clear c4
               try clear p4
               try clear q4
               try clear hx4
               try clear c5
               try clear c6
               try clear p6
               try clear c7
               try clear c8
               try clear c10
               try clear c10b0
               try clear c10b1
               try clear c12
               try clear c12b0
               try clear c12b1
               try clear c13
               try clear c13b0
               try clear c13b1
               try clear c15
               try clear c15b0
               try clear c16
               try clear c16b0
               try clear c31
               try clear c31b0
               try clear c32
               try clear c32b0
               try clear c33
               try clear c33b0
               try clear c34
               try clear hcz18_0
               try clear hcz18_1
               try clear hcz20_0
               try clear hcz20_1
               try clear hcz22_0
               try clear hcz22_1
               try clear hcz29_0
               try clear hcz29_1
               try clear hfz18_0
               try clear hfz18_1
               try clear hfz20_0
               try clear hfz20_1
               try clear hfz22_0
               try clear hfz22_1
               try clear hfz29_0
               try clear hfz29_1
               try clear hx484_0
               try clear hx485_0
               try clear p2
               try clear p4
               try clear p484
               try clear p485
               try clear p6
               try clear q4
               try clear q484
               try clear q485
               obtain ⟨x8_2, x9_2, x58_2, rfl, HA, HK2, HO_8, HO_9, BK470, HB⟩ := hrel
               cases gk with
               | zero => exact absurd HA.out (by simp [impl_ExpansionOf.l1])
               | succ k2 =>
                have H := HA.out
                clear HA
                simp only [impl_ExpansionOf.l1] at H
                by_cases c35 : x58_2 < a1
                ·rw [if_pos c35] at H
                 have c35b0 : decide (x58_2 < a1) = true := decide_eq_true c35
                 clear c35
                 by_cases c36 : 0 ≤ x58_2
                 ·rw [if_pos c36] at H
                  have c36b0 : decide (0 ≤ x58_2) = true := decide_eq_true c36
                  clear c36
                  by_cases c37 : x58_2 < (x8_2.length : Int)
                  ·rw [if_pos c37] at H
                   have c37b0 : decide (x58_2 < (x8_2.length : Int)) = true := decide_eq_true c37
                   clear c37
                   by_cases c39 : 0 ≤ (ji38)
                   ·rw [if_pos c39] at H
                    have c39b0 : decide (0 ≤ (ji38)) = true := decide_eq_true c39
                    clear c39
                    by_cases c40 : (ji38) < ((rd_L1 x8_2 x58_2).length : Int)
                    ·rw [if_pos c40] at H
                     have c40b0 : decide ((ji38) < ((rd_L1 x8_2 x58_2).length : Int)) = true := decide_eq_true c40
                     clear c40
                     by_cases c41 : x58_2 < (x9_2.length : Int)
                     ·rw [if_pos c41] at H
                      have c41b0 : decide (x58_2 < (x9_2.length : Int)) = true := decide_eq_true c41
                      clear c41
                      replace H := Option.bind_eq_some_iff.mp H
                      obtain ⟨t490, A420, H⟩ := H
                      replace H : (impl_ExpansionOf.l1 k2 a1 (x8_2.set (x58_2 : Int).toNat ((rd_L1 x8_2 x58_2).set ((ji38) : Int).toNat (wrap64 ((rd (rd_L1 x8_2 x58_2) (ji38)) + (wrap64 ((rd x9_2 x58_2) * t490)))))) x9_2 (rd (rd_L1 t474 (ji14)) x50_1) (ji38) (rd_L1 t474 (ji14)) ((rd_L1 t474 (ji14)).length : Int) x50_1 a1 (wrap64 (x58_2 + 1))) = some (r1, r2) := H
                      have A42 := Aside0.mk A420
                      clear A420
                      obtain ⟨y491, hy491⟩ : ∃ y_ : List Int, y_ = ((rd_L1 x8_2 x58_2).set ((ji38) : Int).toNat (wrap64 ((rd (rd_L1 x8_2 x58_2) (ji38)) + (wrap64 ((rd x9_2 x58_2) * t490))))) := ⟨_, rfl⟩
                      replace H : (impl_ExpansionOf.l1 k2 a1 (x8_2.set (x58_2 : Int).toNat y491) x9_2 (rd (rd_L1 t474 (ji14)) x50_1) (ji38) (rd_L1 t474 (ji14)) ((rd_L1 t474 (ji14)).length : Int) x50_1 a1 (wrap64 (x58_2 + 1))) = some (r1, r2) := by first | (rw [hy491]; with_reducible exact H) | (have H2_ := (Option.bind_some _ _).symm.trans H; rw [hy491]; with_reducible exact H2_) | (have H2_ := (Option.bind_some _ _).symm.trans H; with_reducible exact H2_) | with_reducible exact H | (rw [hy491]; exact H) | exact H
                      have Ny491 := Aside0.mk hy491
                      clear hy491
                      obtain ⟨y493, hy493⟩ : ∃ y_ : List (List Int), y_ = (x8_2.set (x58_2 : Int).toNat y491) := ⟨_, rfl⟩
                      replace H : (impl_ExpansionOf.l1 k2 a1 y493 x9_2 (rd (rd_L1 t474 (ji14)) x50_1) (ji38) (rd_L1 t474 (ji14)) ((rd_L1 t474 (ji14)).length : Int) x50_1 a1 (wrap64 (x58_2 + 1))) = some (r1, r2) := by first | (rw [hy493]; with_reducible exact H) | (have H2_ := (Option.bind_some _ _).symm.trans H; rw [hy493]; with_reducible exact H2_) | (have H2_ := (Option.bind_some _ _).symm.trans H; with_reducible exact H2_) | with_reducible exact H | (rw [hy493]; exact H) | exact H
                      have Ny493 := Aside0.mk hy493
                      clear hy493
                      have H' := Aside0.mk H
                      clear H
                      try go_wp2
                      have n0_ := Aside0.mk (Kd.S_drew HO_8.out)
                      have n1_ := Aside0.mk (Kd.R_drew HO_9.out)
                      have n2_ := Aside0.mk (blk_drew BK470.out)
                      have n3_ := Aside0.mk (below_drew1 HB.out)
                      clear HO_8
                      clear HO_9
                      clear BK470
                      clear HB
                      have HO_8 := n0_
                      have HO_9 := n1_
                      have BK470 := n2_
                      have HB := n3_
                      clear n0_ n1_ n2_ n3_
                      obtain ⟨Ao45, co45, eo45⟩ := Kd.S_slice HO_8.out
                      (first | subst eo45 | (injection eo45 with f1_ f2_ f3_; have f4_ := f1_.symm; have f5_ := f3_.symm; clear f1_ f2_ f3_; subst f4_; subst f5_))
                      have p487 : 0 ≤ (x58_2 : Int) := of_decide_eq_true as_
                      have q487 : x58_2 < (x8_2.length : Int) := of_decide_eq_true as_
                      obtain ⟨ad487, A487_0, c487_0, e487, hx487_0, hl487_0, hi487_0⟩ := at_L1 (Kd.S_reads' HO_8.out).2.2 x58_2 p487 q487
                      cases e487
                      obtain ⟨ce487, hce487, hMe487, hcc487⟩ := Kd.S_get HO_8.out [] x58_2 p487 (by first | exact q487 | exact of_decide_eq_true as_ | (have e_ := (Kd.S_reads' HO_8.out).1; omega))
                      obtain ⟨ve487_0, rfl, ge487_0⟩ := hMe487
                      have hv487_0 := hcc487 0 _ rfl
                      rw [Nat.add_zero, show ((Kd.slice 2 (Kd.int .i64))).sz = 1 from rfl, Nat.mul_one] at hv487_0
                      replace hv487_0 := Option.some.inj (hv487_0.symm.trans hx487_0)
                      rw [hv487_0] at ge487_0
                      have HL487_0 := Aside0.mk (show Kd.R (Kd.int .i64) 2 _ _ _ _ (rd_L1 x8_2 x58_2) from ge487_0)
                      clear hv487_0 ge487_0
                      have HX487_0 := Aside0.mk hx487_0
                      clear hcc487 hce487
                      have HR487_0 := Aside0.mk hi487_0
                      have HC487_0 := Aside0.mk hl487_0
                      clear hi487_0 hl487_0
                      replace p487 := eq_true p487
                      replace q487 := eq_true q487
                      have p488 : 0 ≤ ((ji38) : Int) := of_decide_eq_true as_
                      have q488 : (ji38) < ((rd_L1 x8_2 x58_2).length : Int) := of_decide_eq_true as_
                      obtain ⟨ad488, e488, hx488_0⟩ := Kd.at_int (by repeat (first | (with_reducible exact HR487_0.out) | (with_reducible refine Kd.C_alloc ?_ _) | (with_reducible refine Kd.C_drewN ?_ _) | (with_reducible refine Kd.C_drew ?_) | exact HR487_0.out)) (ji38) p488 q488
                      cases e488
                      replace p488 := eq_true p488
                      replace q488 := eq_true q488
                      obtain ⟨Ao46, co46, eo46⟩ := Kd.R_slice HO_9.out
                      (first | subst eo46 | (injection eo46 with f1_ f2_ f3_; have f4_ := f1_.symm; have f5_ := f3_.symm; clear f1_ f2_ f3_; subst f4_; subst f5_))
                      have p489 : 0 ≤ (x58_2 : Int) := of_decide_eq_true as_
                      have q489 : x58_2 < (x9_2.length : Int) := of_decide_eq_true as_
                      obtain ⟨ad489, e489, hx489_0⟩ := Kd.at_int (Kd.R_reads' HO_9.out).2.2 x58_2 p489 q489
                      cases e489
                      replace p489 := eq_true p489
                      replace q489 := eq_true q489
                      refine start_ (n := 17) (S := fun w' => w'.cell? (ad487.add (x58_2).toNat) = some (.slice (some ad488) (rd_L1 x8_2 x58_2).length c487_0) ∧ w'.cell? (ad488.add ((ji38)).toNat) = some (.int .i64 (rd (rd_L1 x8_2 x58_2) (ji38))) ∧ w'.cell? (ad489.add (x58_2).toNat) = some (.int .i64 (rd x9_2 x58_2))) (ds := [16]) #[false, false, false, false, false, false, false, false, false, false, false, false, false, false, false, false, false] (by kernel_rfl) rfl rfl ⟨hx487_0, hx488_0, hx489_0⟩ (fun hHeld => ?_); refine with_tabW impl_ExpansionOf.tab18 impl_ExpansionOf.bits18 (fun HT_ HW_ => ?_)
                      generalize wr.drew = w44 at HO_8 HO_9 BK470 HB HL487_0 HR487_0 HX487_0 hx487_0 hx488_0 hx489_0 hHeld ⊢
                      refine pure_ (i := 0) (N := some 61) (v := ?_) (a' := ?_) #[true, false, false, false, false, false, false, false, false, false, false, false, false, false, false, false, false] rfl rfl (any_of HT_.out (by kernel_rfl)) (fun _ _ _ h => h) (Or.inl ⟨by rfl, ?_⟩) ?_ ?_
                      rotate_left
                      ·intro w'
                       go_simp
                       with_reducible rfl
                      rotate_left
                      ·simp only [Act.put, List.setIfInBounds_toArray, List.set_cons_zero, List.set_cons_succ, i64_w, i32_w]
                       rfl
                      refine pure_ (i := 1) (N := some 62) (v := ?_) (a' := ?_) #[true, true, false, false, false, false, false, false, false, false, false, false, false, false, false, false, false] rfl rfl (any_of HT_.out (by kernel_rfl)) (fun _ _ _ h => h) (Or.inl ⟨by rfl, ?_⟩) ?_ ?_
                      rotate_left
                      ·intro w'
                       go_simp
                       with_reducible rfl
                      rotate_left
                      ·simp only [Act.put, List.setIfInBounds_toArray, List.set_cons_zero, List.set_cons_succ, i64_w, i32_w]
                       rfl
                      refine pure_ (i := 2) (N := some 63) (v := ?_) (a' := ?_) #[true, true, true, false, false, false, false, false, false, false, false, false, false, false, false, false, false] rfl rfl (any_of HT_.out (by kernel_rfl)) (fun _ _ _ h => h) (Or.inl ⟨by rfl, ?_⟩) ?_ ?_
                      rotate_left
                      ·intro w'
                       go_simp
                       with_reducible rfl
                      rotate_left
                      ·simp only [Act.put, List.setIfInBounds_toArray, List.set_cons_zero, List.set_cons_succ, i64_w, i32_w]
                       rfl
                      refine pure_ (i := 4) (N := some 65) (v := ?_) (a' := ?_) #[true, true, true, false, true, false, false, false, false, false, false, false, false, false, false, false, false] rfl rfl (any_of HT_.out (by kernel_rfl)) (fun _ _ _ h => h) (Or.inl ⟨by rfl, ?_⟩) ?_ ?_
                      rotate_left
                      ·intro w'
                       go_simp
                       with_reducible rfl
                      rotate_left
                      ·simp only [Act.put, List.setIfInBounds_toArray, List.set_cons_zero, List.set_cons_succ, i64_w, i32_w]
                       rfl
                      refine pure_ (i := 7) (N := some 68) (v := ?_) (a' := ?_) #[true, true, true, false, true, false, false, true, false, false, false, false, false, false, false, false, false] rfl rfl (any_of HT_.out (by kernel_rfl)) (fun _ _ _ h => h) (Or.inl ⟨by rfl, ?_⟩) ?_ ?_
                      rotate_left
                      ·intro w'
                       go_simp
                       with_reducible rfl
                      rotate_left
                      ·simp only [Act.put, List.setIfInBounds_toArray, List.set_cons_zero, List.set_cons_succ, i64_w, i32_w]
                       rfl
                      refine pure_ (i := 8) (N := some 69) (v := ?_) (a' := ?_) #[true, true, true, false, true, false, false, true, true, false, false, false, false, false, false, false, false] rfl rfl (any_of HT_.out (by kernel_rfl)) (fun _ _ _ h => h) (Or.inl ⟨by rfl, ?_⟩) ?_ ?_
                      rotate_left
                      ·intro w'
                       go_simp
                       with_reducible rfl
                      rotate_left
                      ·simp only [Act.put, List.setIfInBounds_toArray, List.set_cons_zero, List.set_cons_succ, i64_w, i32_w]
                       rfl
                      refine pure_ (i := 9) (N := some 70) (v := ?_) (a' := ?_) #[true, true, true, false, true, false, false, true, true, true, false, false, false, false, false, false, false] rfl rfl (any_of HT_.out (by kernel_rfl)) (fun _ _ _ h => h) (Or.inl ⟨by rfl, ?_⟩) ?_ ?_
                      rotate_left
                      ·intro w'
                       go_simp
                       with_reducible rfl
                      rotate_left
                      ·simp only [Act.put, List.setIfInBounds_toArray, List.set_cons_zero, List.set_cons_succ, i64_w, i32_w]
                       rfl
                      refine pure_ (i := 11) (N := some 72) (v := ?_) (a' := ?_) #[true, true, true, false, true, false, false, true, true, true, false, true, false, false, false, false, false] rfl rfl (any_of HT_.out (by kernel_rfl)) (fun _ _ _ h => h) (Or.inl ⟨by rfl, ?_⟩) ?_ ?_
                      rotate_left
                      ·intro w'
                       go_simp
                       with_reducible rfl
                      rotate_left
                      ·simp only [Act.put, List.setIfInBounds_toArray, List.set_cons_zero, List.set_cons_succ, i64_w, i32_w]
                       rfl
                      refine take_ (i := 3) (N := some 64) (v := ?_) (a' := ?_) #[true, true, true, true, true, false, false, true, true, true, false, true, false, false, false, false, false] rfl rfl (take_ofW HT_.out HW_.out (by kernel_rfl)) (fun _ _ _ h => h) (Or.inl ⟨by rfl, ?_⟩) hHeld ?_ ?_
                      rotate_left
                      ·rintro w' ⟨s0, s1, s2⟩
                       go_simp
                       with_reducible rfl
                      rotate_left
                      ·simp only [Act.put, List.setIfInBounds_toArray, List.set_cons_zero, List.set_cons_succ, i64_w, i32_w]
                       rfl
                      refine pure_ (i := 5) (N := some 66) (v := ?_) (a' := ?_) #[true, true, true, true, true, true, false, true, true, true, false, true, false, false, false, false, false] rfl rfl (any_of HT_.out (by kernel_rfl)) (fun _ _ _ h => h) (Or.inl ⟨by rfl, ?_⟩) ?_ ?_
                      rotate_left
                      ·intro w'
                       go_simp
                       with_reducible rfl
                      rotate_left
                      ·simp only [Act.put, List.setIfInBounds_toArray, List.set_cons_zero, List.set_cons_succ, i64_w, i32_w]
                       rfl
                      refine take_ (i := 6) (N := some 67) (v := ?_) (a' := ?_) #[true, true, true, true, true, true, true, true, true, true, false, true, false, false, false, false, false] rfl rfl (take_ofW HT_.out HW_.out (by kernel_rfl)) (fun _ _ _ h => h) (Or.inl ⟨by rfl, ?_⟩) hHeld ?_ ?_
                      rotate_left
                      ·rintro w' ⟨s0, s1, s2⟩
                       go_simp
                       with_reducible rfl
                      rotate_left
                      ·simp only [Act.put, List.setIfInBounds_toArray, List.set_cons_zero, List.set_cons_succ, i64_w, i32_w]
                       rfl
                      refine take_ (i := 10) (N := some 71) (v := ?_) (a' := ?_) #[true, true, true, true, true, true, true, true, true, true, true, true, false, false, false, false, false] rfl rfl (take_ofW HT_.out HW_.out (by kernel_rfl)) (fun _ _ _ h => h) (Or.inl ⟨by rfl, ?_⟩) hHeld ?_ ?_
                      rotate_left
                      ·rintro w' ⟨s0, s1, s2⟩
                       go_simp
                       with_reducible rfl
                      rotate_left
                      ·simp only [Act.put, List.setIfInBounds_toArray, List.set_cons_zero, List.set_cons_succ, i64_w, i32_w]
                       rfl
                      refine one_ (i := 12) (N := some 73) #[true, true, true, true, true, true, true, true, true, true, true, true, true, false, false, false, false] rfl rfl (one_of HT_.out (by kernel_rfl)) (by decide) (fun K hK => ?_)
                      refine goes_ Try.func49 (by kernel_rfl) rfl #[.int .i64 (rd (rd_L1 t474 (ji14)) x50_1)] (by rfl) rfl rfl (by (try simp only [List.map_toArray, List.map_cons, List.map_nil]); first | done | (simp only [hji14]; rfl) | rfl | (simp only [List.length_drop, List.length_take]; rfl)) ?_
                      with_reducible refine (impl_sign.calls (rd (rd_L1 t474 (ji14)) x50_1) t490 _ A42.out).mono ?_
                      rintro e w' ⟨rfl, ⟨nd, rfl⟩⟩
                      refine ⟨_, rfl, ?_⟩
                      have p43 : 0 ≤ ((ji38) : Int) := of_decide_eq_true as_
                      have q43 : ((ji38) : Int) < (((rd_L1 x8_2 x58_2).length : Int) : Int) := of_decide_eq_true as_
                      obtain ⟨go43, co43, eo43, gb43, gl43, cl43, HG43⟩ := Kd.R_form HL487_0.out (by omega)
                      (first | cases eo43 | (injection eo43 with ea_ en_ ec_; (first | subst ea_ | (injection ea_ with ea_; subst ea_)); subst ec_; clear en_))
                      have GB43 := Aside0.mk gb43
                      have GG43 := Aside0.mk HG43
                      clear gb43 gl43 HG43
                      (first | simp only [add_plain] at hx488_0 | skip)
                      obtain ⟨hx43_0, hf43_0⟩ := Kd.R_celln 0 HL487_0.out ((ji38) : Int) p43 q43
                      replace p43 := eq_true p43
                      replace q43 := eq_true q43
                      have hq47 : (x58_2 : Int) < (x8_2.length : Int) := (by have h_ : (x58_2 : Int) < ((x8_2.length : Int) : Int) := of_decide_eq_true as_; first | exact h_ | (have e_ := (Kd.S_reads' HO_8.out).1; omega) | simpa only [List.length_set, List.length_set] using h_)
                      obtain ⟨oki47, ce47, hcl47, hM47, hcc47, hok47, hbk47⟩ := Kd.S_borrow HO_8.out [] (x58_2 : Int) (of_decide_eq_true as_) hq47
                      obtain ⟨ve47_0, rfl, ge47_0⟩ := hM47
                      have hv47 := hcc47 0 _ rfl
                      rw [Nat.add_zero, show ((Kd.slice 2 (Kd.int .i64))).sz = 1 from rfl, Nat.mul_one] at hv47
                      replace hv47 := Option.some.inj (hv47.symm.trans HX487_0.out)
                      subst hv47
                      clear hcc47 hcl47
                      replace ge47_0 := (show Kd.R (Kd.int .i64) 2 _ _ _ _ (rd_L1 x8_2 x58_2) from ge47_0)
                      have HP47 := Kd.R_putg ge47_0 ((ji38) : Int) (wrap64 ((rd (rd_L1 x8_2 x58_2) (ji38)) + (wrap64 ((rd x9_2 x58_2) * t490))))
                      rw [← Ny491.out] at HP47
                      have HS47 := hbk47 HP47.2 (fun k_ e_ => by injection e_ with e_; subst e_; exact ge47_0.1 _ rfl) (x' := y491) (Kd.M_row HP47.1)
                      rw [← Ny493.out] at HS47
                      have HQ47 := Aside0.mk HS47
                      clear HP47 HS47 hbk47 hok47
                      refine hK.out _ _ ⟨hHeld.1, hHeld.2.1, hHeld.2.2⟩ (fun hHeld => ?_)
                      clear hK K
                      refine norm_ (a' := ?_) ?_ ?_
                      rotate_left
                      ·show Act.put _ (some 73) _ = _
                       simp only [Act.put, List.setIfInBounds_toArray, List.set_cons_zero, List.set_cons_succ, i64_w, i32_w]
                       rfl
                      refine pure_ (i := 13) (N := some 74) (v := ?_) (a' := ?_) #[true, true, true, true, true, true, true, true, true, true, true, true, true, true, false, false, false] rfl rfl (any_of HT_.out (by kernel_rfl)) (fun _ _ _ h => h) (Or.inl ⟨by rfl, ?_⟩) ?_ ?_
                      rotate_left
                      ·intro w'
                       go_simp
                       with_reducible rfl
                      rotate_left
                      ·simp only [Act.put, List.setIfInBounds_toArray, List.set_cons_zero, List.set_cons_succ, i64_w, i32_w]
                       rfl
                      refine pure_ (i := 14) (N := some 75) (v := ?_) (a' := ?_) #[true, true, true, true, true, true, true, true, true, true, true, true, true, true, true, false, false] rfl rfl (any_of HT_.out (by kernel_rfl)) (fun _ _ _ h => h) (Or.inl ⟨by rfl, ?_⟩) ?_ ?_
                      rotate_left
                      ·intro w'
                       go_simp
                       with_reducible rfl
                      rotate_left
                      ·simp only [Act.put, List.setIfInBounds_toArray, List.set_cons_zero, List.set_cons_succ, i64_w, i32_w]
                       rfl
                      refine pure_ (i := 15) (N := some 76) (v := ?_) (a' := ?_) #[true, true, true, true, true, true, true, true, true, true, true, true, true, true, true, true, false] rfl rfl (any_of HT_.out (by kernel_rfl)) (fun _ _ _ h => h) (Or.inl ⟨by rfl, ?_⟩) ?_ ?_
                      rotate_left
                      ·intro w'
                       go_simp
                       with_reducible rfl
                      rotate_left
                      ·simp only [Act.put, List.setIfInBounds_toArray, List.set_cons_zero, List.set_cons_succ, i64_w, i32_w]
                       rfl
                      refine last_ (i := 16) (N := none) #[true, true, true, true, true, true, true, true, true, true, true, true, true, true, true, true, true] rfl rfl (one_of HT_.out (by kernel_rfl)) (by decide) (fun K hK => ?_)
                      refine skip_ (w1 := ?_) (by rfl) rfl ?_ ?_
                      rotate_left
                      ·go_simp
                       rfl
                      refine hK.out _ _ ?_
                      clear hK K
                      refine done_ (done_of HT_.out (by kernel_rfl)) ?_
                      try go_wp2
                      go_roundg k2
                      case measure => have := HK1.out; have := HK2.out; omega
                      case rel => exact ⟨(y493), (x9_2), (wrap64 (x58_2 + 1)), (by first | rfl | (simp; done) | (simp [*]; done)), H', ⟨by have := HK1.out; have := HK2.out; omega⟩, ⟨by (with_reducible repeat (first | apply Kd.S_alloc | apply Kd.S_drewN | apply Kd.S_drew)); exact HQ47.out⟩, ⟨by (with_reducible repeat (first | apply Kd.R_alloc | apply Kd.R_drewN | apply Kd.R_drew)); exact Kd.R_mono (Kd.R_far (p := ⟨go43, ((ji38) : Int).toNat, none⟩) (Kd.R_far1 HO_9.out rfl ((HL487_0.out.1 _ rfl).1)) (fun _ hk => hk.2) (.int .i64 (wrap64 ((rd (rd_L1 x8_2 x58_2) (ji38)) + (wrap64 ((rd x9_2 x58_2) * t490)))))) (fun _ hk => trivial)⟩, ⟨by (with_reducible repeat (first | refine blk_drewN ?_ _ | refine blk_drew ?_ | refine blk_alloc ?_ _)); refine blk_far ?_ (by have h_ := Kd.R_ne HL487_0.out BK470.out (by decide); intro e_; exact h_ (by rw [e_]; rfl)) _; (with_reducible repeat (first | refine blk_drewN ?_ _ | refine blk_drew ?_ | refine blk_alloc ?_ _)); exact BK470.out⟩, ⟨by repeat (first | (with_reducible first | exact HB.out | apply below_alloc | apply pw_below_drewN | apply below_drew1 | refine below_set ?_ GB43.out | refine below_set ?_ GE470.out) | exact HB.out)⟩⟩
                     ·rw [if_neg c41] at H
                      exact absurd H (by simp)
                    ·rw [if_neg c40] at H
                     exact absurd H (by simp)
                   ·rw [if_neg c39] at H
                    exact absurd H (by simp)
                  ·rw [if_neg c37] at H
                   exact absurd H (by simp)
                 ·rw [if_neg c36] at H
                  exact absurd H (by simp)
                ·rw [if_neg c35] at H
                 have c35b0 : decide (x58_2 < a1) = false := decide_eq_false c35
                 clear c35
                 by_cases c49 : (rd (rd_L1 t474 (ji14)) x50_1) < 0
                 ·rw [if_pos c49] at H
                  have c49b0 : decide ((rd (rd_L1 t474 (ji14)) x50_1) < 0) = true := decide_eq_true c49
                  clear c49
                  by_cases c51 : 0 ≤ (ji38)
                  ·rw [if_pos c51] at H
                   have c51b0 : decide (0 ≤ (ji38)) = true := decide_eq_true c51
                   clear c51
                   by_cases c52 : (ji38) < (x8_2.length : Int)
                   ·rw [if_pos c52] at H
                    have c52b0 : decide ((ji38) < (x8_2.length : Int)) = true := decide_eq_true c52
                    clear c52
                    by_cases c53 : (ji38) < ((rd_L1 x8_2 (ji38)).length : Int)
                    ·rw [if_pos c53] at H
                     have c53b0 : decide ((ji38) < ((rd_L1 x8_2 (ji38)).length : Int)) = true := decide_eq_true c53
                     clear c53
                     obtain ⟨y496, hy496⟩ : ∃ y_ : List Int, y_ = ((rd_L1 x8_2 (ji38)).set ((ji38) : Int).toNat (wrap64 ((rd (rd_L1 x8_2 (ji38)) (ji38)) + 1))) := ⟨_, rfl⟩
                     replace H : (if (ji38) < (x9_2.length : Int) then ((impl_sign.f (rd (rd_L1 t474 (ji14)) x50_1)).bind fun t500 => (impl_ExpansionOf.l0 k2 a1 (x8_2.set ((ji38) : Int).toNat y496) (x9_2.set ((ji38) : Int).toNat (wrap64 ((rd x9_2 (ji38)) + t500))) (rd_L1 t474 (ji14)) ((rd_L1 t474 (ji14)).length : Int) (wrap64 (x50_1 + 1)))) else (none)) = some (r1, r2) := by first | (rw [hy496]; with_reducible exact H) | (have H2_ := (Option.bind_some _ _).symm.trans H; rw [hy496]; with_reducible exact H2_) | (have H2_ := (Option.bind_some _ _).symm.trans H; with_reducible exact H2_) | with_reducible exact H | (rw [hy496]; exact H) | exact H
                     have Ny496 := Aside0.mk hy496
                     clear hy496
                     obtain ⟨y498, hy498⟩ : ∃ y_ : List (List Int), y_ = (x8_2.set ((ji38) : Int).toNat y496) := ⟨_, rfl⟩
                     replace H : (if (ji38) < (x9_2.length : Int) then ((impl_sign.f (rd (rd_L1 t474 (ji14)) x50_1)).bind fun t500 => (impl_ExpansionOf.l0 k2 a1 y498 (x9_2.set ((ji38) : Int).toNat (wrap64 ((rd x9_2 (ji38)) + t500))) (rd_L1 t474 (ji14)) ((rd_L1 t474 (ji14)).length : Int) (wrap64 (x50_1 + 1)))) else (none)) = some (r1, r2) := by first | (rw [hy498]; with_reducible exact H) | (have H2_ := (Option.bind_some _ _).symm.trans H; rw [hy498]; with_reducible exact H2_) | (have H2_ := (Option.bind_some _ _).symm.trans H; with_reducible exact H2_) | with_reducible exact H | (rw [hy498]; exact H) | exact H
                     have Ny498 := Aside0.mk hy498
                     clear hy498
                     by_cases c55 : (ji38) < (x9_2.length : Int)
                     ·rw [if_pos c55] at H
                      have c55b0 : decide ((ji38) < (x9_2.length : Int)) = true := decide_eq_true c55
                      clear c55
                      replace H := Option.bind_eq_some_iff.mp H
                      obtain ⟨t500, A560, H⟩ := H
                      replace H : (impl_ExpansionOf.l0 k2 a1 y498 (x9_2.set ((ji38) : Int).toNat (wrap64 ((rd x9_2 (ji38)) + t500))) (rd_L1 t474 (ji14)) ((rd_L1 t474 (ji14)).length : Int) (wrap64 (x50_1 + 1))) = some (r1, r2) := H
                      have A56 := Aside0.mk A560
                      clear A560
                      obtain ⟨y501, hy501⟩ : ∃ y_ : List Int, y_ = (x9_2.set ((ji38) : Int).toNat (wrap64 ((rd x9_2 (ji38)) + t500))) := ⟨_, rfl⟩
                      replace H : (impl_ExpansionOf.l0 k2 a1 y498 y501 (rd_L1 t474 (ji14)) ((rd_L1 t474 (ji14)).length : Int) (wrap64 (x50_1 + 1))) = some (r1, r2) := by first | (rw [hy501]; with_reducible exact H) | (have H2_ := (Option.bind_some _ _).symm.trans H; rw [hy501]; with_reducible exact H2_) | (have H2_ := (Option.bind_some _ _).symm.trans H; with_reducible exact H2_) | with_reducible exact H | (rw [hy501]; exact H) | exact H
                      have Ny501 := Aside0.mk hy501
                      clear hy501
                      have H' := Aside0.mk H
                      clear H
                      obtain ⟨Ao58, co58, eo58⟩ := Kd.S_slice HO_8.out
                      subst eo58
                      have p494 : 0 ≤ ((ji38) : Int) := of_decide_eq_true as_
                      have q494 : (ji38) < (x8_2.length : Int) := of_decide_eq_true as_
                      obtain ⟨ad494, A494_0, c494_0, e494, hx494_0, hl494_0, hi494_0⟩ := at_L1 (Kd.S_reads' HO_8.out).2.2 (ji38) p494 q494
                      cases e494
                      obtain ⟨ce494, hce494, hMe494, hcc494⟩ := Kd.S_get HO_8.out [] (ji38) p494 (by first | exact q494 | exact of_decide_eq_true as_ | (have e_ := (Kd.S_reads' HO_8.out).1; omega))
                      obtain ⟨ve494_0, rfl, ge494_0⟩ := hMe494
                      have hv494_0 := hcc494 0 _ rfl
                      rw [Nat.add_zero, show ((Kd.slice 2 (Kd.int .i64))).sz = 1 from rfl, Nat.mul_one] at hv494_0
                      replace hv494_0 := Option.some.inj (hv494_0.symm.trans hx494_0)
                      rw [hv494_0] at ge494_0
                      have HL494_0 := Aside0.mk (show Kd.R (Kd.int .i64) 2 _ _ _ _ (rd_L1 x8_2 (ji38)) from ge494_0)
                      clear hv494_0 ge494_0
                      have HX494_0 := Aside0.mk hx494_0
                      clear hcc494 hce494
                      have HR494_0 := Aside0.mk hi494_0
                      have HC494_0 := Aside0.mk hl494_0
                      clear hi494_0 hl494_0
                      replace p494 := eq_true p494
                      replace q494 := eq_true q494
                      have p495 : 0 ≤ ((ji38) : Int) := of_decide_eq_true as_
                      have q495 : (ji38) < ((rd_L1 x8_2 (ji38)).length : Int) := of_decide_eq_true as_
                      obtain ⟨ad495, e495, hx495_0⟩ := Kd.at_int (by repeat (first | (with_reducible exact HR494_0.out) | (with_reducible refine Kd.C_alloc ?_ _) | (with_reducible refine Kd.C_drewN ?_ _) | (with_reducible refine Kd.C_drew ?_) | exact HR494_0.out)) (ji38) p495 q495
                      cases e495
                      replace p495 := eq_true p495
                      replace q495 := eq_true q495
                      have p54 : 0 ≤ ((ji38) : Int) := of_decide_eq_true as_
                      have q54 : ((ji38) : Int) < (((rd_L1 x8_2 (ji38)).length : Int) : Int) := of_decide_eq_true as_
                      obtain ⟨go54, co54, eo54, gb54, gl54, cl54, HG54⟩ := Kd.R_form HL494_0.out (by omega)
                      (first | cases eo54 | (injection eo54 with ea_ en_ ec_; (first | subst ea_ | (injection ea_ with ea_; subst ea_)); subst ec_; clear en_))
                      have GB54 := Aside0.mk gb54
                      have GG54 := Aside0.mk HG54
                      clear gb54 gl54 HG54
                      (first | simp only [add_plain] at hx495_0 | skip)
                      obtain ⟨hx54_0, hf54_0⟩ := Kd.R_celln 0 HL494_0.out ((ji38) : Int) p54 q54
                      replace p54 := eq_true p54
                      replace q54 := eq_true q54
                      have hq59 : ((ji38) : Int) < (x8_2.length : Int) := (by have h_ : ((ji38) : Int) < ((x8_2.length : Int) : Int) := of_decide_eq_true as_; first | exact h_ | (have e_ := (Kd.S_reads' HO_8.out).1; omega) | simpa only [List.length_set, List.length_set] using h_)
                      obtain ⟨oki59, ce59, hcl59, hM59, hcc59, hok59, hbk59⟩ := Kd.S_borrow HO_8.out [] ((ji38) : Int) (of_decide_eq_true as_) hq59
                      obtain ⟨ve59_0, rfl, ge59_0⟩ := hM59
                      have hv59 := hcc59 0 _ rfl
                      rw [Nat.add_zero, show ((Kd.slice 2 (Kd.int .i64))).sz = 1 from rfl, Nat.mul_one] at hv59
                      replace hv59 := Option.some.inj (hv59.symm.trans HX494_0.out)
                      subst hv59
                      clear hcc59 hcl59
                      replace ge59_0 := (show Kd.R (Kd.int .i64) 2 _ _ _ _ (rd_L1 x8_2 (ji38)) from ge59_0)
                      have HP59 := Kd.R_putg ge59_0 ((ji38) : Int) (wrap64 ((rd (rd_L1 x8_2 (ji38)) (ji38)) + 1))
                      try go_wp2_with (first | ((with_reducible refine gate_store (t := 2) (p := 88) rfl ?_); refine store_event (t := 2) (p := 88) (v := ?vo_w60) (w1 := (wr.setCell ⟨go54, ((ji38) : Int).toNat, none⟩ (.int .i64 (wrap64 ((rd (rd_L1 x8_2 (ji38)) (ji38)) + 1))))) ?hg ?ho ?hn ?hr ?_; (case ho => rfl); (case hg => rfl); (case hn => rfl); (case hr => first | (go_simp; done) | (go_simp; rfl)); intro w60 hw; have hg : wr.grownBy w60 (some go54) := (by rw [hw]; exact HP59.2); have hz_ : Kd.R (Kd.int .i64) 2 w60 w24.heap.size oki59 (.slice (some ⟨go54, 0, none⟩) (rd_L1 x8_2 (ji38)).length c494_0) y496 := (by rw [hw, Ny496.out]; exact HP59.1); have hp_ : Kd.S (Kd.slice 2 (Kd.int .i64)) 22 w60 w24.heap.size (fun k_ => some k_ ≠ (v482 : Value).ownBlock) (.slice (some ad494) x8_2.length co58) y498 := (by rw [Ny498.out]; exact hbk59 hg (fun k_ e_ => by injection e_ with e_; subst e_; exact ge59_0.1 _ rfl) (Kd.M_row hz_)); have hm_ := Kd.R_mono hz_ hok59; clear HP59 hbk59; have n0_ := Aside0.mk (hp_); have n1_ := Aside0.mk (Kd.R_grown1 (by (with_reducible repeat (first | apply Kd.R_alloc | apply Kd.R_drewN | apply Kd.R_drew)); exact HO_9.out) rfl hg ((HL494_0.out.1 _ rfl).1)); have n2_ := Aside0.mk (blk_grown (g := gb470) (o := .cells #[.int .i64 a0_0, .slice A0_1 l0_1.length c0_1] 26 (0, 0)) (by (with_reducible repeat (first | refine blk_drewN ?_ _ | refine blk_drew ?_ | refine blk_alloc ?_ _)); exact BK470.out) hg (Kd.R_ne HL494_0.out BK470.out (by decide))); have n3_ := Aside0.mk ((by rw [hw]; exact below_set (HB.out) GB54.out : Below w24.heap.size w24 w60)); have n4_ := Aside0.mk (hm_); have n5_ := Aside0.mk ((Kd.R_reads' hm_).2.1); clear HO_8; clear HO_9; clear BK470; clear HB; clear HL494_0; have HO_8 := n0_; have HO_9 := n1_; have BK470 := n2_; have HB := n3_; have HL505 := n4_; have HC497 := n5_; clear n0_ n1_ n2_ n3_ n4_ n5_; clear hg hw hp_ hz_ hm_ hok59))
                      have n0_ := Aside0.mk (Kd.S_drew HO_8.out)
                      have n1_ := Aside0.mk (Kd.R_drew HO_9.out)
                      have n2_ := Aside0.mk (Kd.R_drew HL505.out)
                      have n3_ := Aside0.mk (blk_drew BK470.out)
                      have n4_ := Aside0.mk (below_drew1 HB.out)
                      clear HO_8
                      clear HO_9
                      clear HL505
                      clear BK470
                      clear HB
                      have HO_8 := n0_
                      have HO_9 := n1_
                      have HL505 := n2_
                      have BK470 := n3_
                      have HB := n4_
                      clear n0_ n1_ n2_ n3_ n4_
                      obtain ⟨Ao62, co62, eo62⟩ := Kd.R_slice HO_9.out
                      (first | subst eo62 | (injection eo62 with f1_ f2_ f3_; have f4_ := f1_.symm; have f5_ := f3_.symm; clear f1_ f2_ f3_; subst f4_; subst f5_))
                      have p499 : 0 ≤ ((ji38) : Int) := of_decide_eq_true as_
                      have q499 : (ji38) < (x9_2.length : Int) := of_decide_eq_true as_
                      obtain ⟨ad499, e499, hx499_0⟩ := Kd.at_int (Kd.R_reads' HO_9.out).2.2 (ji38) p499 q499
                      cases e499
                      replace p499 := eq_true p499
                      replace q499 := eq_true q499
                      refine start_ (n := 9) (S := fun w' => w'.cell? (ad499.add ((ji38)).toNat) = some (.int .i64 (rd x9_2 (ji38)))) (ds := [8]) #[false, false, false, false, false, false, false, false, false] (by kernel_rfl) rfl rfl (hx499_0) (fun hHeld => ?_); refine with_tabW impl_ExpansionOf.tab22 impl_ExpansionOf.bits22 (fun HT_ HW_ => ?_)
                      generalize w60.drew = w61 at HO_8 HO_9 HL505 BK470 HB hx499_0 hHeld ⊢
                      refine pure_ (i := 0) (N := some 89) (v := ?_) (a' := ?_) #[true, false, false, false, false, false, false, false, false] rfl rfl (any_of HT_.out (by kernel_rfl)) (fun _ _ _ h => h) (Or.inl ⟨by rfl, ?_⟩) ?_ ?_
                      rotate_left
                      ·intro w'
                       go_simp
                       with_reducible rfl
                      rotate_left
                      ·simp only [Act.put, List.setIfInBounds_toArray, List.set_cons_zero, List.set_cons_succ, i64_w, i32_w]
                       rfl
                      refine pure_ (i := 1) (N := some 90) (v := ?_) (a' := ?_) #[true, true, false, false, false, false, false, false, false] rfl rfl (any_of HT_.out (by kernel_rfl)) (fun _ _ _ h => h) (Or.inl ⟨by rfl, ?_⟩) ?_ ?_
                      rotate_left
                      ·intro w'
                       go_simp
                       with_reducible rfl
                      rotate_left
                      ·simp only [Act.put, List.setIfInBounds_toArray, List.set_cons_zero, List.set_cons_succ, i64_w, i32_w]
                       rfl
                      refine pure_ (i := 2) (N := some 91) (v := ?_) (a' := ?_) #[true, true, true, false, false, false, false, false, false] rfl rfl (any_of HT_.out (by kernel_rfl)) (fun _ _ _ h => h) (Or.inl ⟨by rfl, ?_⟩) ?_ ?_
                      rotate_left
                      ·intro w'
                       go_simp
                       with_reducible rfl
                      rotate_left
                      ·simp only [Act.put, List.setIfInBounds_toArray, List.set_cons_zero, List.set_cons_succ, i64_w, i32_w]
                       rfl
                      refine pure_ (i := 4) (N := some 93) (v := ?_) (a' := ?_) #[true, true, true, false, true, false, false, false, false] rfl rfl (any_of HT_.out (by kernel_rfl)) (fun _ _ _ h => h) (Or.inl ⟨by rfl, ?_⟩) ?_ ?_
                      rotate_left
                      ·intro w'
                       go_simp
                       with_reducible rfl
                      rotate_left
                      ·simp only [Act.put, List.setIfInBounds_toArray, List.set_cons_zero, List.set_cons_succ, i64_w, i32_w]
                       rfl
                      refine take_ (i := 3) (N := some 92) (v := ?_) (a' := ?_) #[true, true, true, true, true, false, false, false, false] rfl rfl (take_ofW HT_.out HW_.out (by kernel_rfl)) (fun _ _ _ h => h) (Or.inl ⟨by rfl, ?_⟩) hHeld ?_ ?_
                      rotate_left
                      ·intro w' s0
                       go_simp
                       with_reducible rfl
                      rotate_left
                      ·simp only [Act.put, List.setIfInBounds_toArray, List.set_cons_zero, List.set_cons_succ, i64_w, i32_w]
                       rfl
                      refine one_ (i := 5) (N := some 94) #[true, true, true, true, true, true, false, false, false] rfl rfl (one_of HT_.out (by kernel_rfl)) (by decide) (fun K hK => ?_)
                      refine goes_ Try.func49 (by kernel_rfl) rfl #[.int .i64 (rd (rd_L1 t474 (ji14)) x50_1)] (by rfl) rfl rfl (by (try simp only [List.map_toArray, List.map_cons, List.map_nil]); first | done | (simp only [hji14]; rfl) | rfl | (simp only [List.length_drop, List.length_take]; rfl)) ?_
                      with_reducible refine (impl_sign.calls (rd (rd_L1 t474 (ji14)) x50_1) t500 _ A56.out).mono ?_
                      rintro e w' ⟨rfl, ⟨nd, rfl⟩⟩
                      refine ⟨_, rfl, ?_⟩
                      have p57 : 0 ≤ ((ji38) : Int) := of_decide_eq_true as_
                      have q57 : ((ji38) : Int) < ((x9_2.length : Int) : Int) := of_decide_eq_true as_
                      obtain ⟨go57, co57, eo57, gb57, gl57, cl57, HG57⟩ := Kd.R_form HO_9.out (by omega)
                      (first | cases eo57 | (injection eo57 with ea_ en_ ec_; (first | subst ea_ | (injection ea_ with ea_; subst ea_)); subst ec_; clear en_))
                      have GB57 := Aside0.mk gb57
                      have GG57 := Aside0.mk HG57
                      clear gb57 gl57 HG57
                      (first | simp only [add_plain] at hx499_0 | skip)
                      obtain ⟨hx57_0, hf57_0⟩ := Kd.R_celln 0 HO_9.out ((ji38) : Int) p57 q57
                      replace p57 := eq_true p57
                      replace q57 := eq_true q57
                      have HP63 := Kd.R_putn HO_9.out ((ji38) : Int) (wrap64 ((rd x9_2 (ji38)) + t500))
                      rw [← Ny501.out] at HP63
                      have HQ63 := Aside0.mk HP63
                      clear HP63
                      refine hK.out _ _ (hHeld) (fun hHeld => ?_)
                      clear hK K
                      refine norm_ (a' := ?_) ?_ ?_
                      rotate_left
                      ·show Act.put _ (some 94) _ = _
                       simp only [Act.put, List.setIfInBounds_toArray, List.set_cons_zero, List.set_cons_succ, i64_w, i32_w]
                       rfl
                      refine pure_ (i := 6) (N := some 95) (v := ?_) (a' := ?_) #[true, true, true, true, true, true, true, false, false] rfl rfl (any_of HT_.out (by kernel_rfl)) (fun _ _ _ h => h) (Or.inl ⟨by rfl, ?_⟩) ?_ ?_
                      rotate_left
                      ·intro w'
                       go_simp
                       with_reducible rfl
                      rotate_left
                      ·simp only [Act.put, List.setIfInBounds_toArray, List.set_cons_zero, List.set_cons_succ, i64_w, i32_w]
                       rfl
                      refine pure_ (i := 7) (N := some 96) (v := ?_) (a' := ?_) #[true, true, true, true, true, true, true, true, false] rfl rfl (any_of HT_.out (by kernel_rfl)) (fun _ _ _ h => h) (Or.inl ⟨by rfl, ?_⟩) ?_ ?_
                      rotate_left
                      ·intro w'
                       go_simp
                       with_reducible rfl
                      rotate_left
                      ·simp only [Act.put, List.setIfInBounds_toArray, List.set_cons_zero, List.set_cons_succ, i64_w, i32_w]
                       rfl
                      refine last_ (i := 8) (N := none) #[true, true, true, true, true, true, true, true, true] rfl rfl (one_of HT_.out (by kernel_rfl)) (by decide) (fun K hK => ?_)
                      refine skip_ (w1 := ?_) (by rfl) rfl ?_ ?_
                      rotate_left
                      ·go_simp
                       rfl
                      refine hK.out _ _ ?_
                      clear hK K
                      refine done_ (done_of HT_.out (by kernel_rfl)) ?_
                      try go_wp2
                      go_roundg k2
                      case measure => have := HK1.out; have := HK2.out; omega
                      case rel => exact ⟨(y498), (y501), (wrap64 (x50_1 + 1)), (by first | rfl | (simp; done) | (simp [*]; done)), H', ⟨by have := HK1.out; have := HK2.out; omega⟩, ⟨by (with_reducible repeat (first | apply Kd.S_alloc | apply Kd.S_drewN | apply Kd.S_drew)); exact Kd.S_mono (Kd.S_far (p := ⟨go57, ((ji38) : Int).toNat, none⟩) (Kd.S_mono HO_8.out (fun k_ hk => (⟨hk, fun e_ => hk (by rw [e_]; rfl)⟩ : _ ∧ k_ ≠ go57))) (fun _ hk => hk.2) (.int .i64 (wrap64 ((rd x9_2 (ji38)) + t500)))) (fun _ hk => hk.1)⟩, ⟨by (with_reducible repeat (first | apply Kd.R_alloc | apply Kd.R_drewN | apply Kd.R_drew)); exact HQ63.out⟩, ⟨by (with_reducible repeat (first | refine blk_drewN ?_ _ | refine blk_drew ?_ | refine blk_alloc ?_ _)); refine blk_far ?_ (by have h_ := Kd.R_ne HO_9.out BK470.out (by decide); intro e_; exact h_ (by rw [e_]; rfl)) _; (with_reducible repeat (first | refine blk_drewN ?_ _ | refine blk_drew ?_ | refine blk_alloc ?_ _)); exact BK470.out⟩, ⟨by repeat (first | (with_reducible first | exact HB.out | apply below_alloc | apply pw_below_drewN | apply below_drew1 | refine below_set ?_ GB57.out | refine below_set ?_ GE470.out) | exact HB.out)⟩⟩
                     ·rw [if_neg c55] at H
                      exact absurd H (by simp)
                    ·rw [if_neg c53] at H
                     exact absurd H (by simp)
                   ·rw [if_neg c52] at H
                    exact absurd H (by simp)
                  ·rw [if_neg c51] at H
                   exact absurd H (by simp)
                 ·rw [if_neg c49] at H
                  have c49b0 : decide ((rd (rd_L1 t474 (ji14)) x50_1) < 0) = false := decide_eq_false c49
                  clear c49
                  by_cases c65 : 0 ≤ (ji38)
                  ·rw [if_pos c65] at H
                   have c65b0 : decide (0 ≤ (ji38)) = true := decide_eq_true c65
                   clear c65
                   by_cases c66 : (ji38) < (x9_2.length : Int)
                   ·rw [if_pos c66] at H
                    have c66b0 : decide ((ji38) < (x9_2.length : Int)) = true := decide_eq_true c66
                    clear c66
                    replace H := Option.bind_eq_some_iff.mp H
                    obtain ⟨t503, A670, H⟩ := H
                    replace H : (impl_ExpansionOf.l0 k2 a1 x8_2 (x9_2.set ((ji38) : Int).toNat (wrap64 ((rd x9_2 (ji38)) + t503))) (rd_L1 t474 (ji14)) ((rd_L1 t474 (ji14)).length : Int) (wrap64 (x50_1 + 1))) = some (r1, r2) := H
                    have A67 := Aside0.mk A670
                    clear A670
                    obtain ⟨y504, hy504⟩ : ∃ y_ : List Int, y_ = (x9_2.set ((ji38) : Int).toNat (wrap64 ((rd x9_2 (ji38)) + t503))) := ⟨_, rfl⟩
                    replace H : (impl_ExpansionOf.l0 k2 a1 x8_2 y504 (rd_L1 t474 (ji14)) ((rd_L1 t474 (ji14)).length : Int) (wrap64 (x50_1 + 1))) = some (r1, r2) := by first | (rw [hy504]; with_reducible exact H) | (have H2_ := (Option.bind_some _ _).symm.trans H; rw [hy504]; with_reducible exact H2_) | (have H2_ := (Option.bind_some _ _).symm.trans H; with_reducible exact H2_) | with_reducible exact H | (rw [hy504]; exact H) | exact H
                    have Ny504 := Aside0.mk hy504
                    clear hy504
                    have H' := Aside0.mk H
                    clear H
                    try go_wp2
                    have n0_ := Aside0.mk (Kd.S_drew HO_8.out)
                    have n1_ := Aside0.mk (Kd.R_drew HO_9.out)
                    have n2_ := Aside0.mk (blk_drew BK470.out)
                    have n3_ := Aside0.mk (below_drew1 HB.out)
                    clear HO_8
                    clear HO_9
                    clear BK470
                    clear HB
                    have HO_8 := n0_
                    have HO_9 := n1_
                    have BK470 := n2_
                    have HB := n3_
                    clear n0_ n1_ n2_ n3_
                    obtain ⟨Ao70, co70, eo70⟩ := Kd.R_slice HO_9.out
                    (first | subst eo70 | (injection eo70 with f1_ f2_ f3_; have f4_ := f1_.symm; have f5_ := f3_.symm; clear f1_ f2_ f3_; subst f4_; subst f5_))
                    have p502 : 0 ≤ ((ji38) : Int) := of_decide_eq_true as_
                    have q502 : (ji38) < (x9_2.length : Int) := of_decide_eq_true as_
                    obtain ⟨ad502, e502, hx502_0⟩ := Kd.at_int (Kd.R_reads' HO_9.out).2.2 (ji38) p502 q502
                    cases e502
                    replace p502 := eq_true p502
                    replace q502 := eq_true q502
                    refine start_ (n := 9) (S := fun w' => w'.cell? (ad502.add ((ji38)).toNat) = some (.int .i64 (rd x9_2 (ji38)))) (ds := [8]) #[false, false, false, false, false, false, false, false, false] (by kernel_rfl) rfl rfl (hx502_0) (fun hHeld => ?_); refine with_tabW impl_ExpansionOf.tab22 impl_ExpansionOf.bits22 (fun HT_ HW_ => ?_)
                    generalize wr.drew = w69 at HO_8 HO_9 BK470 HB hx502_0 hHeld ⊢
                    refine pure_ (i := 0) (N := some 89) (v := ?_) (a' := ?_) #[true, false, false, false, false, false, false, false, false] rfl rfl (any_of HT_.out (by kernel_rfl)) (fun _ _ _ h => h) (Or.inl ⟨by rfl, ?_⟩) ?_ ?_
                    rotate_left
                    ·intro w'
                     go_simp
                     with_reducible rfl
                    rotate_left
                    ·simp only [Act.put, List.setIfInBounds_toArray, List.set_cons_zero, List.set_cons_succ, i64_w, i32_w]
                     rfl
                    refine pure_ (i := 1) (N := some 90) (v := ?_) (a' := ?_) #[true, true, false, false, false, false, false, false, false] rfl rfl (any_of HT_.out (by kernel_rfl)) (fun _ _ _ h => h) (Or.inl ⟨by rfl, ?_⟩) ?_ ?_
                    rotate_left
                    ·intro w'
                     go_simp
                     with_reducible rfl
                    rotate_left
                    ·simp only [Act.put, List.setIfInBounds_toArray, List.set_cons_zero, List.set_cons_succ, i64_w, i32_w]
                     rfl
                    refine pure_ (i := 2) (N := some 91) (v := ?_) (a' := ?_) #[true, true, true, false, false, false, false, false, false] rfl rfl (any_of HT_.out (by kernel_rfl)) (fun _ _ _ h => h) (Or.inl ⟨by rfl, ?_⟩) ?_ ?_
                    rotate_left
                    ·intro w'
                     go_simp
                     with_reducible rfl
                    rotate_left
                    ·simp only [Act.put, List.setIfInBounds_toArray, List.set_cons_zero, List.set_cons_succ, i64_w, i32_w]
                     rfl
                    refine pure_ (i := 4) (N := some 93) (v := ?_) (a' := ?_) #[true, true, true, false, true, false, false, false, false] rfl rfl (any_of HT_.out (by kernel_rfl)) (fun _ _ _ h => h) (Or.inl ⟨by rfl, ?_⟩) ?_ ?_
                    rotate_left
                    ·intro w'
                     go_simp
                     with_reducible rfl
                    rotate_left
                    ·simp only [Act.put, List.setIfInBounds_toArray, List.set_cons_zero, List.set_cons_succ, i64_w, i32_w]
                     rfl
                    refine take_ (i := 3) (N := some 92) (v := ?_) (a' := ?_) #[true, true, true, true, true, false, false, false, false] rfl rfl (take_ofW HT_.out HW_.out (by kernel_rfl)) (fun _ _ _ h => h) (Or.inl ⟨by rfl, ?_⟩) hHeld ?_ ?_
                    rotate_left
                    ·intro w' s0
                     go_simp
                     with_reducible rfl
                    rotate_left
                    ·simp only [Act.put, List.setIfInBounds_toArray, List.set_cons_zero, List.set_cons_succ, i64_w, i32_w]
                     rfl
                    refine one_ (i := 5) (N := some 94) #[true, true, true, true, true, true, false, false, false] rfl rfl (one_of HT_.out (by kernel_rfl)) (by decide) (fun K hK => ?_)
                    refine goes_ Try.func49 (by kernel_rfl) rfl #[.int .i64 (rd (rd_L1 t474 (ji14)) x50_1)] (by rfl) rfl rfl (by (try simp only [List.map_toArray, List.map_cons, List.map_nil]); first | done | (simp only [hji14]; rfl) | rfl | (simp only [List.length_drop, List.length_take]; rfl)) ?_
                    with_reducible refine (impl_sign.calls (rd (rd_L1 t474 (ji14)) x50_1) t503 _ A67.out).mono ?_
                    rintro e w' ⟨rfl, ⟨nd, rfl⟩⟩
                    refine ⟨_, rfl, ?_⟩
                    have p68 : 0 ≤ ((ji38) : Int) := of_decide_eq_true as_
                    have q68 : ((ji38) : Int) < ((x9_2.length : Int) : Int) := of_decide_eq_true as_
                    obtain ⟨go68, co68, eo68, gb68, gl68, cl68, HG68⟩ := Kd.R_form HO_9.out (by omega)
                    (first | cases eo68 | (injection eo68 with ea_ en_ ec_; (first | subst ea_ | (injection ea_ with ea_; subst ea_)); subst ec_; clear en_))
                    have GB68 := Aside0.mk gb68
                    have GG68 := Aside0.mk HG68
                    clear gb68 gl68 HG68
                    (first | simp only [add_plain] at hx502_0 | skip)
                    obtain ⟨hx68_0, hf68_0⟩ := Kd.R_celln 0 HO_9.out ((ji38) : Int) p68 q68
                    replace p68 := eq_true p68
                    replace q68 := eq_true q68
                    have HP71 := Kd.R_putn HO_9.out ((ji38) : Int) (wrap64 ((rd x9_2 (ji38)) + t503))
                    rw [← Ny504.out] at HP71
                    have HQ71 := Aside0.mk HP71
                    clear HP71
                    refine hK.out _ _ (hHeld) (fun hHeld => ?_)
                    clear hK K
                    refine norm_ (a' := ?_) ?_ ?_
                    rotate_left
                    ·show Act.put _ (some 94) _ = _
                     simp only [Act.put, List.setIfInBounds_toArray, List.set_cons_zero, List.set_cons_succ, i64_w, i32_w]
                     rfl
                    refine pure_ (i := 6) (N := some 95) (v := ?_) (a' := ?_) #[true, true, true, true, true, true, true, false, false] rfl rfl (any_of HT_.out (by kernel_rfl)) (fun _ _ _ h => h) (Or.inl ⟨by rfl, ?_⟩) ?_ ?_
                    rotate_left
                    ·intro w'
                     go_simp
                     with_reducible rfl
                    rotate_left
                    ·simp only [Act.put, List.setIfInBounds_toArray, List.set_cons_zero, List.set_cons_succ, i64_w, i32_w]
                     rfl
                    refine pure_ (i := 7) (N := some 96) (v := ?_) (a' := ?_) #[true, true, true, true, true, true, true, true, false] rfl rfl (any_of HT_.out (by kernel_rfl)) (fun _ _ _ h => h) (Or.inl ⟨by rfl, ?_⟩) ?_ ?_
                    rotate_left
                    ·intro w'
                     go_simp
                     with_reducible rfl
                    rotate_left
                    ·simp only [Act.put, List.setIfInBounds_toArray, List.set_cons_zero, List.set_cons_succ, i64_w, i32_w]
                     rfl
                    refine last_ (i := 8) (N := none) #[true, true, true, true, true, true, true, true, true] rfl rfl (one_of HT_.out (by kernel_rfl)) (by decide) (fun K hK => ?_)
                    refine skip_ (w1 := ?_) (by rfl) rfl ?_ ?_
                    rotate_left
                    ·go_simp
                     rfl
                    refine hK.out _ _ ?_
                    clear hK K
                    refine done_ (done_of HT_.out (by kernel_rfl)) ?_
                    try go_wp2
                    go_roundg k2
                    case measure => have := HK1.out; have := HK2.out; omega
                    case rel => exact ⟨(x8_2), (y504), (wrap64 (x50_1 + 1)), (by first | rfl | (simp; done) | (simp [*]; done)), H', ⟨by have := HK1.out; have := HK2.out; omega⟩, ⟨by (with_reducible repeat (first | apply Kd.S_alloc | apply Kd.S_drewN | apply Kd.S_drew)); exact Kd.S_mono (Kd.S_far (p := ⟨go68, ((ji38) : Int).toNat, none⟩) (Kd.S_mono HO_8.out (fun k_ hk => (⟨hk, fun e_ => hk (by rw [e_]; rfl)⟩ : _ ∧ k_ ≠ go68))) (fun _ hk => hk.2) (.int .i64 (wrap64 ((rd x9_2 (ji38)) + t503)))) (fun _ hk => hk.1)⟩, ⟨by (with_reducible repeat (first | apply Kd.R_alloc | apply Kd.R_drewN | apply Kd.R_drew)); exact HQ71.out⟩, ⟨by (with_reducible repeat (first | refine blk_drewN ?_ _ | refine blk_drew ?_ | refine blk_alloc ?_ _)); refine blk_far ?_ (by have h_ := Kd.R_ne HO_9.out BK470.out (by decide); intro e_; exact h_ (by rw [e_]; rfl)) _; (with_reducible repeat (first | refine blk_drewN ?_ _ | refine blk_drew ?_ | refine blk_alloc ?_ _)); exact BK470.out⟩, ⟨by repeat (first | (with_reducible first | exact HB.out | apply below_alloc | apply pw_below_drewN | apply below_drew1 | refine below_set ?_ GB68.out | refine below_set ?_ GE470.out) | exact HB.out)⟩⟩
                   ·rw [if_neg c66] at H
                    exact absurd H (by simp)
                  ·rw [if_neg c65] at H
                   exact absurd H (by simp)
             ·rw [if_neg c33] at H
              exact absurd H (by simp)
            ·rw [if_neg c32] at H
             exact absurd H (by simp)
           ·rw [if_neg c31] at H
            have c31b0 : decide (x50_1 < ((rd_L1 t474 (ji14)).length : Int)) = false := decide_eq_false c31
            clear c31
            simp only [Option.some.injEq, Prod.mk.injEq] at H
            obtain ⟨rfl, rfl⟩ := H
            go_wp2
            go_ret2
            replace HB := Aside0.mk (below_step HBs_.out HB.out)
            replace HO_8 := Aside0.mk (Kd.S_lower HO_8.out (below_size HBs_.out))
            exact ⟨_, by first | rfl | (simp [errW_none, errW_some] <;> rfl) | (simp only [← hji14]; first | rfl | (simp [errW_none, errW_some] <;> rfl)) | (simp [*, errW_none, errW_some] <;> rfl), by (with_reducible repeat (first | apply Kd.S_alloc | apply Kd.S_drewN | apply Kd.S_drew)); exact Kd.S_mono HO_8.out (fun _ hk => trivial), by repeat (first | (with_reducible first | exact HB.out | apply below_alloc | apply pw_below_drewN | apply below_drew1 | refine below_set ?_ GE470.out) | exact HB.out)⟩
        ·rw [if_neg c16] at H
         exact absurd H (by simp)
       ·rw [if_neg c15] at H
        exact absurd H (by simp)
      ·rw [if_neg c13] at H
       exact absurd H (by simp)
     ·rw [if_neg c12] at H
      exact absurd H (by simp)
    ·rw [if_neg c10] at H
     have c10b0 : (t477 == 0) = false := beq_eq_false_iff_ne.mpr c10
     have c10b1 : (t477 != 0) = true := bne_iff_ne.mpr c10
     simp only [Option.some.injEq, Prod.mk.injEq] at H
     obtain ⟨rfl, rfl⟩ := H
     go_enter Try.func34, Try.ntmps34
     go_wp2_with (first | ((with_reducible refine gate_dst (N := 2) rfl ?_); refine box_event ?hg (N := 2) ?hd (cs := #[.int .i64 a0_0, .slice A0_1 l0_1.length c0_1]) (t := 26) ?hr ?_; (case hd => rfl); (case hg => rfl); (case hr => first | (go_simp; done) | (go_simp; rfl)); intro gb470 hg w72 hbox hb; have n0_ := Aside0.mk (below_step hB_ hb); have n1_ := Aside0.mk (hbox); have n2_ := Aside0.mk ((by rw [hg]; exact (below_size hB_) : w.heap.size ≤ gb470)); have n3_ := Aside0.mk ((by rw [hg]; exact (below_size hB_) : w.heap.size ≤ gb470)); clear HB; have HB := n0_; have BK470 := n1_; have GW470 := n2_; have GE470 := n3_; clear n0_ n1_ n2_ n3_; clear hb hbox hg; have hcz73_0 : w72.cell? ⟨gb470, 0, none⟩ = some (.int .i64 a0_0) := (blk_cell BK470.out 0).trans rfl; have hcz73_1 : w72.cell? ⟨gb470, 1, none⟩ = some (.slice A0_1 l0_1.length c0_1) := (blk_cell BK470.out 1).trans rfl; have hfz73_0 := blk_frozen BK470.out 0; have hfz73_1 := blk_frozen BK470.out 1) | ((with_reducible refine gate_callee (f := 47) rfl ?_); refine goesL_ (some 16) rfl rfl Try.func47 (by kernel_rfl) rfl #[.agg #[.int .i64 a0_0, .slice A0_1 l0_1.length c0_1]] rfl (by (try simp only [List.map_toArray, List.map_cons, List.map_nil]); first | done | rfl | (simp only [List.length_drop, List.length_take]; rfl)) ?_; (with_reducible refine (impl_IsBraid.calls k a0_0 _ _ l0_1 true _ ?side1 ?side2 A3.out).mono ?_); (case side1 => repeat (first | exact (Kd.C_below HR0_1.out HB.out) | (with_reducible refine Kd.C_alloc ?_ _) | (with_reducible refine Kd.C_drewN ?_ _) | (with_reducible refine Kd.C_drew ?_))); (case side2 => exact HC0_1.out); rintro e w74 ⟨rfl, hb⟩; refine ⟨_, rfl, ?_⟩; have n0_ := Aside0.mk (blk_below (g := gb470) (o := .cells #[.int .i64 a0_0, .slice A0_1 l0_1.length c0_1] 26 (0, 0)) (by (with_reducible repeat (first | refine blk_drewN ?_ _ | refine blk_drew ?_ | refine blk_alloc ?_ _)); exact BK470.out) hb); have n1_ := Aside0.mk (below_step (by repeat (first | (with_reducible first | exact HB.out | apply below_alloc | apply pw_below_drewN | apply below_drew1 | refine below_set ?_ GE470.out) | exact HB.out)) hb); clear BK470; clear HB; have BK470 := n0_; have HB := n1_; clear n0_ n1_; (try clear hb); (try clear hb2); (try clear hk); (try clear hi); have hcz75_0 : w74.cell? ⟨gb470, 0, none⟩ = some (.int .i64 a0_0) := (blk_cell BK470.out 0).trans rfl; have hcz75_1 : w74.cell? ⟨gb470, 1, none⟩ = some (.slice A0_1 l0_1.length c0_1) := (blk_cell BK470.out 1).trans rfl; have hfz75_0 := blk_frozen BK470.out 0; have hfz75_1 := blk_frozen BK470.out 1) | ((with_reducible refine gate_callee (f := 48) rfl ?_); refine goesL_ (some 23) rfl rfl Try.func48 (by kernel_rfl) rfl #[.int .i64 a1, .int .i64 1, .int .i64 (wrap64 (a0_0 - 1))] rfl (by (try simp only [List.map_toArray, List.map_cons, List.map_nil]); first | done | rfl | (simp only [List.length_drop, List.length_take]; rfl)) ?_; (with_reducible refine (impl_within.calls a1 1 (wrap64 (a0_0 - 1)) true _ A5.out).mono ?_); rintro e w' ⟨rfl, ⟨nd, rfl⟩⟩; refine ⟨_, rfl, ?_⟩) | ((with_reducible refine gate_callee (f := 70) rfl ?_); refine goesL_ (some 27) rfl rfl Try.func70 (by kernel_rfl) rfl #[.agg #[.int .i64 a0_0, .slice A0_1 l0_1.length c0_1]] rfl (by (try simp only [List.map_toArray, List.map_cons, List.map_nil]); first | done | rfl | (simp only [List.length_drop, List.length_take]; rfl)) ?_; (with_reducible refine (impl_isPure.calls k a0_0 _ _ l0_1 true _ ?side1 ?side2 A7.out).mono ?_); (case side1 => repeat (first | exact (Kd.C_below HR0_1.out (by repeat (first | (with_reducible first | exact HB.out | apply below_alloc | apply pw_below_drewN | apply below_drew1 | refine below_set ?_ GE470.out) | exact HB.out))) | (with_reducible refine Kd.C_alloc ?_ _) | (with_reducible refine Kd.C_drewN ?_ _) | (with_reducible refine Kd.C_drew ?_))); (case side2 => exact HC0_1.out); rintro e w76 ⟨rfl, hb⟩; refine ⟨_, rfl, ?_⟩; have n0_ := Aside0.mk (blk_below (g := gb470) (o := .cells #[.int .i64 a0_0, .slice A0_1 l0_1.length c0_1] 26 (0, 0)) (by (with_reducible repeat (first | refine blk_drewN ?_ _ | refine blk_drew ?_ | refine blk_alloc ?_ _)); exact BK470.out) hb); have n1_ := Aside0.mk (below_step (by repeat (first | (with_reducible first | exact HB.out | apply below_alloc | apply pw_below_drewN | apply below_drew1 | refine below_set ?_ GE470.out) | exact HB.out)) hb); clear BK470; clear HB; have BK470 := n0_; have HB := n1_; clear n0_ n1_; (try clear hb); (try clear hb2); (try clear hk); (try clear hi); have hcz77_0 : w76.cell? ⟨gb470, 0, none⟩ = some (.int .i64 a0_0) := (blk_cell BK470.out 0).trans rfl; have hcz77_1 : w76.cell? ⟨gb470, 1, none⟩ = some (.slice A0_1 l0_1.length c0_1) := (blk_cell BK470.out 1).trans rfl; have hfz77_0 := blk_frozen BK470.out 0; have hfz77_1 := blk_frozen BK470.out 1) | ((with_reducible refine gate_callee (f := 71) rfl ?_); refine goesL_ (some 31) rfl rfl Try.func71 (by kernel_rfl) rfl #[.agg #[.int .i64 a0_0, .slice A0_1 l0_1.length c0_1]] rfl (by (try simp only [List.map_toArray, List.map_cons, List.map_nil]); first | done | rfl | (simp only [List.length_drop, List.length_take]; rfl)) ?_; (with_reducible refine (impl_combOf.calls k a0_0 (fun k_ => k_ < w.heap.size) _ _ l0_1 t474 t477 _ ?side1 A9.out).mono ?_); (case side1 => exact Kd.V_mk HC0_1.out (Kd.F_below (Kd.C_F (Kd.heap_int .i64) HR0_1.out) (by repeat (first | (with_reducible first | exact HB.out | apply below_alloc | apply pw_below_drewN | apply below_drew1 | refine below_set ?_ GE470.out) | exact HB.out)))); rintro e w78 ⟨v475, rfl, ho0, hb⟩; refine ⟨_, rfl, ?_⟩; have n0_ := Aside0.mk (Kd.S_lower (Kd.S_mono (ok' := fun k_ => True) ho0 (fun _ hk_ => trivial)) (below_size (by repeat (first | (with_reducible first | exact HB.out | apply below_alloc | apply pw_below_drewN | apply below_drew1 | refine below_set ?_ GE470.out) | exact HB.out)))); have n1_ := Aside0.mk (blk_below (g := gb470) (o := .cells #[.int .i64 a0_0, .slice A0_1 l0_1.length c0_1] 26 (0, 0)) (by (with_reducible repeat (first | refine blk_drewN ?_ _ | refine blk_drew ?_ | refine blk_alloc ?_ _)); exact BK470.out) hb); have n2_ := Aside0.mk (below_step (by repeat (first | (with_reducible first | exact HB.out | apply below_alloc | apply pw_below_drewN | apply below_drew1 | refine below_set ?_ GE470.out) | exact HB.out)) hb); clear BK470; clear HB; have HO476 := n0_; have BK470 := n1_; have HB := n2_; clear n0_ n1_ n2_; (try clear hb); (try clear hb2); (try clear hk); (try clear hi); (try clear ho0)))
     go_ret2
     exact ⟨_, by first | rfl | (simp [errW_none, errW_some] <;> rfl) | (simp [*, errW_none, errW_some] <;> rfl), by first | exact Kd.S_nil _ _ _ _ _ | exact Kd.N_nil _ _ _ _ _ | exact Kd.V_nil _ _ _ _ _ | exact Kd.Q_nil _ _ _ _ _ | exact Kd.R_nil _ _ _ _ _, by repeat (first | (with_reducible first | exact HB.out | apply below_alloc | apply pw_below_drewN | apply below_drew1 | refine below_set ?_ GE470.out) | exact HB.out)⟩
   ·replace c8 := Bool.eq_false_iff.mpr c8
    subst c8
    have H1 : (some (([] : List (List Int)), 5)) = some (r1, r2) := by rw [if_neg (show ¬ (false = true) by decide)] at H; exact H
    clear H
    have H := H1
    clear H1
    simp only [Option.some.injEq, Prod.mk.injEq] at H
    obtain ⟨rfl, rfl⟩ := H
    go_enter Try.func34, Try.ntmps34
    go_wp2_with (first | ((with_reducible refine gate_dst (N := 2) rfl ?_); refine box_event ?hg (N := 2) ?hd (cs := #[.int .i64 a0_0, .slice A0_1 l0_1.length c0_1]) (t := 26) ?hr ?_; (case hd => rfl); (case hg => rfl); (case hr => first | (go_simp; done) | (go_simp; rfl)); intro gb470 hg w79 hbox hb; have n0_ := Aside0.mk (below_step hB_ hb); have n1_ := Aside0.mk (hbox); have n2_ := Aside0.mk ((by rw [hg]; exact (below_size hB_) : w.heap.size ≤ gb470)); have n3_ := Aside0.mk ((by rw [hg]; exact (below_size hB_) : w.heap.size ≤ gb470)); clear HB; have HB := n0_; have BK470 := n1_; have GW470 := n2_; have GE470 := n3_; clear n0_ n1_ n2_ n3_; clear hb hbox hg; have hcz80_0 : w79.cell? ⟨gb470, 0, none⟩ = some (.int .i64 a0_0) := (blk_cell BK470.out 0).trans rfl; have hcz80_1 : w79.cell? ⟨gb470, 1, none⟩ = some (.slice A0_1 l0_1.length c0_1) := (blk_cell BK470.out 1).trans rfl; have hfz80_0 := blk_frozen BK470.out 0; have hfz80_1 := blk_frozen BK470.out 1) | ((with_reducible refine gate_callee (f := 47) rfl ?_); refine goesL_ (some 16) rfl rfl Try.func47 (by kernel_rfl) rfl #[.agg #[.int .i64 a0_0, .slice A0_1 l0_1.length c0_1]] rfl (by (try simp only [List.map_toArray, List.map_cons, List.map_nil]); first | done | rfl | (simp only [List.length_drop, List.length_take]; rfl)) ?_; (with_reducible refine (impl_IsBraid.calls k a0_0 _ _ l0_1 true _ ?side1 ?side2 A3.out).mono ?_); (case side1 => repeat (first | exact (Kd.C_below HR0_1.out HB.out) | (with_reducible refine Kd.C_alloc ?_ _) | (with_reducible refine Kd.C_drewN ?_ _) | (with_reducible refine Kd.C_drew ?_))); (case side2 => exact HC0_1.out); rintro e w81 ⟨rfl, hb⟩; refine ⟨_, rfl, ?_⟩; have n0_ := Aside0.mk (blk_below (g := gb470) (o := .cells #[.int .i64 a0_0, .slice A0_1 l0_1.length c0_1] 26 (0, 0)) (by (with_reducible repeat (first | refine blk_drewN ?_ _ | refine blk_drew ?_ | refine blk_alloc ?_ _)); exact BK470.out) hb); have n1_ := Aside0.mk (below_step (by repeat (first | (with_reducible first | exact HB.out | apply below_alloc | apply pw_below_drewN | apply below_drew1 | refine below_set ?_ GE470.out) | exact HB.out)) hb); clear BK470; clear HB; have BK470 := n0_; have HB := n1_; clear n0_ n1_; (try clear hb); (try clear hb2); (try clear hk); (try clear hi); have hcz82_0 : w81.cell? ⟨gb470, 0, none⟩ = some (.int .i64 a0_0) := (blk_cell BK470.out 0).trans rfl; have hcz82_1 : w81.cell? ⟨gb470, 1, none⟩ = some (.slice A0_1 l0_1.length c0_1) := (blk_cell BK470.out 1).trans rfl; have hfz82_0 := blk_frozen BK470.out 0; have hfz82_1 := blk_frozen BK470.out 1) | ((with_reducible refine gate_callee (f := 48) rfl ?_); refine goesL_ (some 23) rfl rfl Try.func48 (by kernel_rfl) rfl #[.int .i64 a1, .int .i64 1, .int .i64 (wrap64 (a0_0 - 1))] rfl (by (try simp only [List.map_toArray, List.map_cons, List.map_nil]); first | done | rfl | (simp only [List.length_drop, List.length_take]; rfl)) ?_; (with_reducible refine (impl_within.calls a1 1 (wrap64 (a0_0 - 1)) true _ A5.out).mono ?_); rintro e w' ⟨rfl, ⟨nd, rfl⟩⟩; refine ⟨_, rfl, ?_⟩) | ((with_reducible refine gate_callee (f := 70) rfl ?_); refine goesL_ (some 27) rfl rfl Try.func70 (by kernel_rfl) rfl #[.agg #[.int .i64 a0_0, .slice A0_1 l0_1.length c0_1]] rfl (by (try simp only [List.map_toArray, List.map_cons, List.map_nil]); first | done | rfl | (simp only [List.length_drop, List.length_take]; rfl)) ?_; (with_reducible refine (impl_isPure.calls k a0_0 _ _ l0_1 false _ ?side1 ?side2 A7.out).mono ?_); (case side1 => repeat (first | exact (Kd.C_below HR0_1.out (by repeat (first | (with_reducible first | exact HB.out | apply below_alloc | apply pw_below_drewN | apply below_drew1 | refine below_set ?_ GE470.out) | exact HB.out))) | (with_reducible refine Kd.C_alloc ?_ _) | (with_reducible refine Kd.C_drewN ?_ _) | (with_reducible refine Kd.C_drew ?_))); (case side2 => exact HC0_1.out); rintro e w83 ⟨rfl, hb⟩; refine ⟨_, rfl, ?_⟩; have n0_ := Aside0.mk (blk_below (g := gb470) (o := .cells #[.int .i64 a0_0, .slice A0_1 l0_1.length c0_1] 26 (0, 0)) (by (with_reducible repeat (first | refine blk_drewN ?_ _ | refine blk_drew ?_ | refine blk_alloc ?_ _)); exact BK470.out) hb); have n1_ := Aside0.mk (below_step (by repeat (first | (with_reducible first | exact HB.out | apply below_alloc | apply pw_below_drewN | apply below_drew1 | refine below_set ?_ GE470.out) | exact HB.out)) hb); clear BK470; clear HB; have BK470 := n0_; have HB := n1_; clear n0_ n1_; (try clear hb); (try clear hb2); (try clear hk); (try clear hi)))
    go_ret2
    exact ⟨_, by first | rfl | (simp [errW_none, errW_some] <;> rfl) | (simp [*, errW_none, errW_some] <;> rfl), by first | exact Kd.S_nil _ _ _ _ _ | exact Kd.N_nil _ _ _ _ _ | exact Kd.V_nil _ _ _ _ _ | exact Kd.Q_nil _ _ _ _ _ | exact Kd.R_nil _ _ _ _ _, by repeat (first | (with_reducible first | exact HB.out | apply below_alloc | apply pw_below_drewN | apply below_drew1 | refine below_set ?_ GE470.out) | exact HB.out)⟩
  ·replace c6 := Bool.eq_false_iff.mpr c6
   subst c6
   have H1 : (some (([] : List (List Int)), 2)) = some (r1, r2) := by rw [if_neg (show ¬ (false = true) by decide)] at H; exact H
   clear H
   have H := H1
   clear H1
   simp only [Option.some.injEq, Prod.mk.injEq] at H
   obtain ⟨rfl, rfl⟩ := H
   go_enter Try.func34, Try.ntmps34
   go_wp2_with (first | ((with_reducible refine gate_dst (N := 2) rfl ?_); refine box_event ?hg (N := 2) ?hd (cs := #[.int .i64 a0_0, .slice A0_1 l0_1.length c0_1]) (t := 26) ?hr ?_; (case hd => rfl); (case hg => rfl); (case hr => first | (go_simp; done) | (go_simp; rfl)); intro gb470 hg w84 hbox hb; have n0_ := Aside0.mk (below_step hB_ hb); have n1_ := Aside0.mk (hbox); have n2_ := Aside0.mk ((by rw [hg]; exact (below_size hB_) : w.heap.size ≤ gb470)); have n3_ := Aside0.mk ((by rw [hg]; exact (below_size hB_) : w.heap.size ≤ gb470)); clear HB; have HB := n0_; have BK470 := n1_; have GW470 := n2_; have GE470 := n3_; clear n0_ n1_ n2_ n3_; clear hb hbox hg; have hcz85_0 : w84.cell? ⟨gb470, 0, none⟩ = some (.int .i64 a0_0) := (blk_cell BK470.out 0).trans rfl; have hcz85_1 : w84.cell? ⟨gb470, 1, none⟩ = some (.slice A0_1 l0_1.length c0_1) := (blk_cell BK470.out 1).trans rfl; have hfz85_0 := blk_frozen BK470.out 0; have hfz85_1 := blk_frozen BK470.out 1) | ((with_reducible refine gate_callee (f := 47) rfl ?_); refine goesL_ (some 16) rfl rfl Try.func47 (by kernel_rfl) rfl #[.agg #[.int .i64 a0_0, .slice A0_1 l0_1.length c0_1]] rfl (by (try simp only [List.map_toArray, List.map_cons, List.map_nil]); first | done | rfl | (simp only [List.length_drop, List.length_take]; rfl)) ?_; (with_reducible refine (impl_IsBraid.calls k a0_0 _ _ l0_1 true _ ?side1 ?side2 A3.out).mono ?_); (case side1 => repeat (first | exact (Kd.C_below HR0_1.out HB.out) | (with_reducible refine Kd.C_alloc ?_ _) | (with_reducible refine Kd.C_drewN ?_ _) | (with_reducible refine Kd.C_drew ?_))); (case side2 => exact HC0_1.out); rintro e w86 ⟨rfl, hb⟩; refine ⟨_, rfl, ?_⟩; have n0_ := Aside0.mk (blk_below (g := gb470) (o := .cells #[.int .i64 a0_0, .slice A0_1 l0_1.length c0_1] 26 (0, 0)) (by (with_reducible repeat (first | refine blk_drewN ?_ _ | refine blk_drew ?_ | refine blk_alloc ?_ _)); exact BK470.out) hb); have n1_ := Aside0.mk (below_step (by repeat (first | (with_reducible first | exact HB.out | apply below_alloc | apply pw_below_drewN | apply below_drew1 | refine below_set ?_ GE470.out) | exact HB.out)) hb); clear BK470; clear HB; have BK470 := n0_; have HB := n1_; clear n0_ n1_; (try clear hb); (try clear hb2); (try clear hk); (try clear hi); have hcz87_0 : w86.cell? ⟨gb470, 0, none⟩ = some (.int .i64 a0_0) := (blk_cell BK470.out 0).trans rfl; have hcz87_1 : w86.cell? ⟨gb470, 1, none⟩ = some (.slice A0_1 l0_1.length c0_1) := (blk_cell BK470.out 1).trans rfl; have hfz87_0 := blk_frozen BK470.out 0; have hfz87_1 := blk_frozen BK470.out 1) | ((with_reducible refine gate_callee (f := 48) rfl ?_); refine goesL_ (some 23) rfl rfl Try.func48 (by kernel_rfl) rfl #[.int .i64 a1, .int .i64 1, .int .i64 (wrap64 (a0_0 - 1))] rfl (by (try simp only [List.map_toArray, List.map_cons, List.map_nil]); first | done | rfl | (simp only [List.length_drop, List.length_take]; rfl)) ?_; (with_reducible refine (impl_within.calls a1 1 (wrap64 (a0_0 - 1)) false _ A5.out).mono ?_); rintro e w' ⟨rfl, ⟨nd, rfl⟩⟩; refine ⟨_, rfl, ?_⟩))
   go_ret2
   exact ⟨_, by first | rfl | (simp [errW_none, errW_some] <;> rfl) | (simp [*, errW_none, errW_some] <;> rfl), by first | exact Kd.S_nil _ _ _ _ _ | exact Kd.N_nil _ _ _ _ _ | exact Kd.V_nil _ _ _ _ _ | exact Kd.Q_nil _ _ _ _ _ | exact Kd.R_nil _ _ _ _ _, by repeat (first | (with_reducible first | exact HB.out | apply below_alloc | apply pw_below_drewN | apply below_drew1 | refine below_set ?_ GE470.out) | exact HB.out)⟩
 ·replace c4 := Bool.eq_false_iff.mpr c4
  subst c4
  have H1 : (some (([] : List (List Int)), 1)) = some (r1, r2) := by rw [if_neg (show ¬ (false = true) by decide)] at H; exact H
  clear H
  have H := H1
  clear H1
  simp only [Option.some.injEq, Prod.mk.injEq] at H
  obtain ⟨rfl, rfl⟩ := H
  go_enter Try.func34, Try.ntmps34
  go_wp2_with (first | ((with_reducible refine gate_dst (N := 2) rfl ?_); refine box_event ?hg (N := 2) ?hd (cs := #[.int .i64 a0_0, .slice A0_1 l0_1.length c0_1]) (t := 26) ?hr ?_; (case hd => rfl); (case hg => rfl); (case hr => first | (go_simp; done) | (go_simp; rfl)); intro gb470 hg w88 hbox hb; have n0_ := Aside0.mk (below_step hB_ hb); have n1_ := Aside0.mk (hbox); have n2_ := Aside0.mk ((by rw [hg]; exact (below_size hB_) : w.heap.size ≤ gb470)); have n3_ := Aside0.mk ((by rw [hg]; exact (below_size hB_) : w.heap.size ≤ gb470)); clear HB; have HB := n0_; have BK470 := n1_; have GW470 := n2_; have GE470 := n3_; clear n0_ n1_ n2_ n3_; clear hb hbox hg; have hcz89_0 : w88.cell? ⟨gb470, 0, none⟩ = some (.int .i64 a0_0) := (blk_cell BK470.out 0).trans rfl; have hcz89_1 : w88.cell? ⟨gb470, 1, none⟩ = some (.slice A0_1 l0_1.length c0_1) := (blk_cell BK470.out 1).trans rfl; have hfz89_0 := blk_frozen BK470.out 0; have hfz89_1 := blk_frozen BK470.out 1) | ((with_reducible refine gate_callee (f := 47) rfl ?_); refine goesL_ (some 16) rfl rfl Try.func47 (by kernel_rfl) rfl #[.agg #[.int .i64 a0_0, .slice A0_1 l0_1.length c0_1]] rfl (by (try simp only [List.map_toArray, List.map_cons, List.map_nil]); first | done | rfl | (simp only [List.length_drop, List.length_take]; rfl)) ?_; (with_reducible refine (impl_IsBraid.calls k a0_0 _ _ l0_1 false _ ?side1 ?side2 A3.out).mono ?_); (case side1 => repeat (first | exact (Kd.C_below HR0_1.out HB.out) | (with_reducible refine Kd.C_alloc ?_ _) | (with_reducible refine Kd.C_drewN ?_ _) | (with_reducible refine Kd.C_drew ?_))); (case side2 => exact HC0_1.out); rintro e w90 ⟨rfl, hb⟩; refine ⟨_, rfl, ?_⟩; have n0_ := Aside0.mk (blk_below (g := gb470) (o := .cells #[.int .i64 a0_0, .slice A0_1 l0_1.length c0_1] 26 (0, 0)) (by (with_reducible repeat (first | refine blk_drewN ?_ _ | refine blk_drew ?_ | refine blk_alloc ?_ _)); exact BK470.out) hb); have n1_ := Aside0.mk (below_step (by repeat (first | (with_reducible first | exact HB.out | apply below_alloc | apply pw_below_drewN | apply below_drew1 | refine below_set ?_ GE470.out) | exact HB.out)) hb); clear BK470; clear HB; have BK470 := n0_; have HB := n1_; clear n0_ n1_; (try clear hb); (try clear hb2); (try clear hk); (try clear hi)))
  go_ret2
  exact ⟨_, by first | rfl | (simp [errW_none, errW_some] <;> rfl) | (simp [*, errW_none, errW_some] <;> rfl), by first | exact Kd.S_nil _ _ _ _ _ | exact Kd.N_nil _ _ _ _ _ | exact Kd.V_nil _ _ _ _ _ | exact Kd.Q_nil _ _ _ _ _ | exact Kd.R_nil _ _ _ _ _, by repeat (first | (with_reducible first | exact HB.out | apply below_alloc | apply pw_below_drewN | apply below_drew1 | refine below_set ?_ GE470.out) | exact HB.out)⟩

end Go.Proofs.Ytcbomfkimohlfaa.MFnExactExpansionOf
