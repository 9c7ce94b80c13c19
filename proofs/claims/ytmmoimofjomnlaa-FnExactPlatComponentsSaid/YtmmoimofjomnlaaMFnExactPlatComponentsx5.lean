-- Walks of the functions that a law reaches, one after the other: plain functions, and that the machine's calls come to what they tell (wip/tools/myprint.py of this repo).
import Derived.Test.YtmmoimofjomnlaaMFnExactPlatComponentsx0
import Derived.Test.YtmmoimofjomnlaaMFnExactPlatComponentsx3
import Derived.Test.YtmmoimofjomnlaaMFnExactPlatComponentsx4
import Derived.Test.YtmmoimofjomnlaaLibArr
import Derived.Test.YtmmoimofjomnlaaLibPlat
namespace Go.Proofs.Ytmmoimofjomnlaa.MFnExactPlatComponents
open Go.RowKit Go.Proofs.YtmmoimofjomnlaaW.PrintWords Go.Proofs.YtmmoimofjomnlaaW.PrintLast Go.Proofs.YtmmoimofjomnlaaW.PrintMore
open Go.Proofs.Ytmmoimofjomnlaa.LibPlat
open Go.Proofs.Ytmmoimofjomnlaa.LibArr
attribute [local go_sem] max2_int min2_int max_two min_two max_three min_three max_four min_four   -- for this text's walks alone
set_option linter.unusedVariables false
set_option linter.unusedSimpArgs false

/-! ### bits_Len64: function 41 -/
def bits_Len64.j0 : Nat → Int → Int → Option (Int)
  | 0, _, _ => none
  | k + 1, x0, x2 => if x0 ≥ 65536 then (if (x0 / 65536) ≥ 256 then (if 0 ≤ (((x0 / 65536) / 256) % 256) then (if (((x0 / 65536) / 256) % 256) < 256 then (some (wrap64 ((wrap64 ((wrap64 (x2 + 16)) + 8)) + (wrap64 (bt (⟨#[0, 1, 2, 2, 3, 3, 3, 3, 4, 4, 4, 4, 4, 4, 4, 4, 5, 5, 5, 5, 5, 5, 5, 5, 5, 5, 5, 5, 5, 5, 5, 5, 6, 6, 6, 6, 6, 6, 6, 6, 6, 6, 6, 6, 6, 6, 6, 6, 6, 6, 6, 6, 6, 6, 6, 6, 6, 6, 6, 6, 6, 6, 6, 6, 7, 7, 7, 7, 7, 7, 7, 7, 7, 7, 7, 7, 7, 7, 7, 7, 7, 7, 7, 7, 7, 7, 7, 7, 7, 7, 7, 7, 7, 7, 7, 7, 7, 7, 7, 7, 7, 7, 7, 7, 7, 7, 7, 7, 7, 7, 7, 7, 7, 7, 7, 7, 7, 7, 7, 7, 7, 7, 7, 7, 7, 7, 7, 7, 8, 8, 8, 8, 8, 8, 8, 8, 8, 8, 8, 8, 8, 8, 8, 8, 8, 8, 8, 8, 8, 8, 8, 8, 8, 8, 8, 8, 8, 8, 8, 8, 8, 8, 8, 8, 8, 8, 8, 8, 8, 8, 8, 8, 8, 8, 8, 8, 8, 8, 8, 8, 8, 8, 8, 8, 8, 8, 8, 8, 8, 8, 8, 8, 8, 8, 8, 8, 8, 8, 8, 8, 8, 8, 8, 8, 8, 8, 8, 8, 8, 8, 8, 8, 8, 8, 8, 8, 8, 8, 8, 8, 8, 8, 8, 8, 8, 8, 8, 8, 8, 8, 8, 8, 8, 8, 8, 8, 8, 8, 8, 8, 8, 8, 8, 8, 8, 8, 8, 8, 8, 8, 8, 8, 8, 8, 8, 8]⟩ : ByteArray) (((x0 / 65536) / 256) % 256)))))) else (none)) else (none)) else (if 0 ≤ ((x0 / 65536) % 256) then (if ((x0 / 65536) % 256) < 256 then (some (wrap64 ((wrap64 (x2 + 16)) + (wrap64 (bt (⟨#[0, 1, 2, 2, 3, 3, 3, 3, 4, 4, 4, 4, 4, 4, 4, 4, 5, 5, 5, 5, 5, 5, 5, 5, 5, 5, 5, 5, 5, 5, 5, 5, 6, 6, 6, 6, 6, 6, 6, 6, 6, 6, 6, 6, 6, 6, 6, 6, 6, 6, 6, 6, 6, 6, 6, 6, 6, 6, 6, 6, 6, 6, 6, 6, 7, 7, 7, 7, 7, 7, 7, 7, 7, 7, 7, 7, 7, 7, 7, 7, 7, 7, 7, 7, 7, 7, 7, 7, 7, 7, 7, 7, 7, 7, 7, 7, 7, 7, 7, 7, 7, 7, 7, 7, 7, 7, 7, 7, 7, 7, 7, 7, 7, 7, 7, 7, 7, 7, 7, 7, 7, 7, 7, 7, 7, 7, 7, 7, 8, 8, 8, 8, 8, 8, 8, 8, 8, 8, 8, 8, 8, 8, 8, 8, 8, 8, 8, 8, 8, 8, 8, 8, 8, 8, 8, 8, 8, 8, 8, 8, 8, 8, 8, 8, 8, 8, 8, 8, 8, 8, 8, 8, 8, 8, 8, 8, 8, 8, 8, 8, 8, 8, 8, 8, 8, 8, 8, 8, 8, 8, 8, 8, 8, 8, 8, 8, 8, 8, 8, 8, 8, 8, 8, 8, 8, 8, 8, 8, 8, 8, 8, 8, 8, 8, 8, 8, 8, 8, 8, 8, 8, 8, 8, 8, 8, 8, 8, 8, 8, 8, 8, 8, 8, 8, 8, 8, 8, 8, 8, 8, 8, 8, 8, 8, 8, 8, 8, 8, 8, 8, 8, 8, 8, 8, 8, 8]⟩ : ByteArray) ((x0 / 65536) % 256)))))) else (none)) else (none))) else (if x0 ≥ 256 then (if 0 ≤ ((x0 / 256) % 256) then (if ((x0 / 256) % 256) < 256 then (some (wrap64 ((wrap64 (x2 + 8)) + (wrap64 (bt (⟨#[0, 1, 2, 2, 3, 3, 3, 3, 4, 4, 4, 4, 4, 4, 4, 4, 5, 5, 5, 5, 5, 5, 5, 5, 5, 5, 5, 5, 5, 5, 5, 5, 6, 6, 6, 6, 6, 6, 6, 6, 6, 6, 6, 6, 6, 6, 6, 6, 6, 6, 6, 6, 6, 6, 6, 6, 6, 6, 6, 6, 6, 6, 6, 6, 7, 7, 7, 7, 7, 7, 7, 7, 7, 7, 7, 7, 7, 7, 7, 7, 7, 7, 7, 7, 7, 7, 7, 7, 7, 7, 7, 7, 7, 7, 7, 7, 7, 7, 7, 7, 7, 7, 7, 7, 7, 7, 7, 7, 7, 7, 7, 7, 7, 7, 7, 7, 7, 7, 7, 7, 7, 7, 7, 7, 7, 7, 7, 7, 8, 8, 8, 8, 8, 8, 8, 8, 8, 8, 8, 8, 8, 8, 8, 8, 8, 8, 8, 8, 8, 8, 8, 8, 8, 8, 8, 8, 8, 8, 8, 8, 8, 8, 8, 8, 8, 8, 8, 8, 8, 8, 8, 8, 8, 8, 8, 8, 8, 8, 8, 8, 8, 8, 8, 8, 8, 8, 8, 8, 8, 8, 8, 8, 8, 8, 8, 8, 8, 8, 8, 8, 8, 8, 8, 8, 8, 8, 8, 8, 8, 8, 8, 8, 8, 8, 8, 8, 8, 8, 8, 8, 8, 8, 8, 8, 8, 8, 8, 8, 8, 8, 8, 8, 8, 8, 8, 8, 8, 8, 8, 8, 8, 8, 8, 8, 8, 8, 8, 8, 8, 8, 8, 8, 8, 8, 8, 8]⟩ : ByteArray) ((x0 / 256) % 256)))))) else (none)) else (none)) else (if 0 ≤ ((x0) % 256) then (if ((x0) % 256) < 256 then (some (wrap64 (x2 + (wrap64 (bt (⟨#[0, 1, 2, 2, 3, 3, 3, 3, 4, 4, 4, 4, 4, 4, 4, 4, 5, 5, 5, 5, 5, 5, 5, 5, 5, 5, 5, 5, 5, 5, 5, 5, 6, 6, 6, 6, 6, 6, 6, 6, 6, 6, 6, 6, 6, 6, 6, 6, 6, 6, 6, 6, 6, 6, 6, 6, 6, 6, 6, 6, 6, 6, 6, 6, 7, 7, 7, 7, 7, 7, 7, 7, 7, 7, 7, 7, 7, 7, 7, 7, 7, 7, 7, 7, 7, 7, 7, 7, 7, 7, 7, 7, 7, 7, 7, 7, 7, 7, 7, 7, 7, 7, 7, 7, 7, 7, 7, 7, 7, 7, 7, 7, 7, 7, 7, 7, 7, 7, 7, 7, 7, 7, 7, 7, 7, 7, 7, 7, 8, 8, 8, 8, 8, 8, 8, 8, 8, 8, 8, 8, 8, 8, 8, 8, 8, 8, 8, 8, 8, 8, 8, 8, 8, 8, 8, 8, 8, 8, 8, 8, 8, 8, 8, 8, 8, 8, 8, 8, 8, 8, 8, 8, 8, 8, 8, 8, 8, 8, 8, 8, 8, 8, 8, 8, 8, 8, 8, 8, 8, 8, 8, 8, 8, 8, 8, 8, 8, 8, 8, 8, 8, 8, 8, 8, 8, 8, 8, 8, 8, 8, 8, 8, 8, 8, 8, 8, 8, 8, 8, 8, 8, 8, 8, 8, 8, 8, 8, 8, 8, 8, 8, 8, 8, 8, 8, 8, 8, 8, 8, 8, 8, 8, 8, 8, 8, 8, 8, 8, 8, 8, 8, 8, 8, 8, 8, 8]⟩ : ByteArray) ((x0) % 256)))))) else (none)) else (none)))
def bits_Len64.f (k : Nat) (a0 : Int) : Option (Int) := if a0 ≥ 4294967296 then (bits_Len64.j0 k (a0 / 4294967296) 32) else (bits_Len64.j0 k a0 0)
theorem bits_Len64.mono_l : ∀ k, (∀ y0 y1, LeO (bits_Len64.j0 k y0 y1) (bits_Len64.j0 (k + 1) y0 y1))
  | 0 => fun _ _ r h => by simp [bits_Len64.j0] at h
  | k + 1 => by
    have ih0 := bits_Len64.mono_l k
    · intro y0 y1
      unfold bits_Len64.j0
      repeat' first
      | (with_reducible exact ih0 _ _)
      | (with_reducible exact LeO.refl _)
      | (with_reducible exact LeO.none _)
      | (with_reducible refine LeO.ite ?_ ?_)
      | (with_reducible refine LeO.bind ?_ (fun _ => ?_))
      | exact ih0 _ _
      | exact LeO.none _
      | refine LeO.ite ?_ ?_
      | refine LeO.bind ?_ (fun _ => ?_)
theorem bits_Len64.mono : ∀ a0 k, LeO (bits_Len64.f k a0) (bits_Len64.f (k + 1) a0) := by
  intro a0 k
  have ih0 := bits_Len64.mono_l k
  unfold bits_Len64.f
  repeat' first
      | (with_reducible exact ih0 _ _)
      | (with_reducible exact LeO.refl _)
      | (with_reducible exact LeO.none _)
      | (with_reducible refine LeO.ite ?_ ?_)
      | (with_reducible refine LeO.bind ?_ (fun _ => ?_))
      | exact ih0 _ _
      | exact LeO.none _
      | refine LeO.ite ?_ ?_
      | refine LeO.bind ?_ (fun _ => ?_)
set_option maxHeartbeats 8000000 in
set_option maxRecDepth 100000 in
theorem bits_Len64.calls (k : Nat) (a0 : Int) (r : Int) (w : World) (h : bits_Len64.f k a0 = some r) :
    Calls Try.prog 41 #[.int .u64 a0] w fun e w' => e = .returned (.int .i64 r) ∧ Drawn0 w w' := by
  have H : (if a0 ≥ 4294967296 then (bits_Len64.j0 k (a0 / 4294967296) 32) else (bits_Len64.j0 k a0 0)) = some r := h
  clear h
  have HC2 := Aside0.mk H
  clear H
  go_enter Try.func41, Try.ntmps41
  go_upto_if 4 with (fail)
  go_cut [0, 2] (fun v0 v2 wc => ∃ (kq : Nat) (x0_1 : Int) (x2_1 : Int), v0 = .int .u64 x0_1 ∧ v2 = .int .i64 x2_1 ∧ Aside0 (bits_Len64.j0 kq x0_1 x2_1 = some r) ∧ Aside0 (kq ≤ k) ∧ Drawn0 w wc)
  case first =>
    have H := HC2.out
    clear HC2
    by_cases c3 : a0 ≥ 4294967296
    · rw [if_pos c3] at H
      have c3b0 : decide (4294967296 ≤ a0) = true := decide_eq_true c3
      clear c3
      (first | rw [c3b0] | (simp only [i64_w, i32_w]; rw [c3b0]) | skip)
      have H' := Aside0.mk H
      clear H
      go_wp2
      go_meet
      case rel => exact ⟨_, (a0 / 4294967296), (32), (by first | rfl | (simp; done) | (simp [*]; done)), (by first | rfl | (simp; done) | (simp [*]; done)), H', ⟨by first | omega | exact Nat.le_refl _⟩, by repeat (first | exact Drawn0.refl _ | apply Drawn0.step)⟩
    · rw [if_neg c3] at H
      have c3b0 : decide (4294967296 ≤ a0) = false := decide_eq_false c3
      clear c3
      (first | rw [c3b0] | (simp only [i64_w, i32_w]; rw [c3b0]) | skip)
      have H' := Aside0.mk H
      clear H
      go_wp2
      go_meet
      case rel => exact ⟨_, (a0), (0), (by first | rfl | (simp; done) | (simp [*]; done)), (by first | rfl | (simp; done) | (simp [*]; done)), H', ⟨by first | omega | exact Nat.le_refl _⟩, by repeat (first | exact Drawn0.refl _ | apply Drawn0.step)⟩
  case rest =>
    clear HC2
    try clear p2
    try clear c3
    try clear c3b0
    obtain ⟨kq, x0_1, x2_1, rfl, rfl, HA, HJ1, ⟨mc1, rfl⟩⟩ := hcut
    cases kq with
    | zero => exact absurd HA.out (by simp [bits_Len64.j0])
    | succ kj1 =>
      have H := HA.out
      clear HA
      simp only [bits_Len64.j0] at H
      by_cases c4 : x0_1 ≥ 65536
      · rw [if_pos c4] at H
        have c4b0 : decide (65536 ≤ x0_1) = true := decide_eq_true c4
        clear c4
        by_cases c5 : (x0_1 / 65536) ≥ 256
        · rw [if_pos c5] at H
          have c5b0 : decide (256 ≤ (x0_1 / 65536)) = true := decide_eq_true c5
          clear c5
          obtain ⟨ji6, hji6⟩ : ∃ j_ : Int, (((x0_1 / 65536) / 256) % 256) = j_ := ⟨_, rfl⟩
          replace H : (if 0 ≤ (ji6) then (if (ji6) < 256 then (some (wrap64 ((wrap64 ((wrap64 (x2_1 + 16)) + 8)) + (wrap64 (bt (⟨#[0, 1, 2, 2, 3, 3, 3, 3, 4, 4, 4, 4, 4, 4, 4, 4, 5, 5, 5, 5, 5, 5, 5, 5, 5, 5, 5, 5, 5, 5, 5, 5, 6, 6, 6, 6, 6, 6, 6, 6, 6, 6, 6, 6, 6, 6, 6, 6, 6, 6, 6, 6, 6, 6, 6, 6, 6, 6, 6, 6, 6, 6, 6, 6, 7, 7, 7, 7, 7, 7, 7, 7, 7, 7, 7, 7, 7, 7, 7, 7, 7, 7, 7, 7, 7, 7, 7, 7, 7, 7, 7, 7, 7, 7, 7, 7, 7, 7, 7, 7, 7, 7, 7, 7, 7, 7, 7, 7, 7, 7, 7, 7, 7, 7, 7, 7, 7, 7, 7, 7, 7, 7, 7, 7, 7, 7, 7, 7, 8, 8, 8, 8, 8, 8, 8, 8, 8, 8, 8, 8, 8, 8, 8, 8, 8, 8, 8, 8, 8, 8, 8, 8, 8, 8, 8, 8, 8, 8, 8, 8, 8, 8, 8, 8, 8, 8, 8, 8, 8, 8, 8, 8, 8, 8, 8, 8, 8, 8, 8, 8, 8, 8, 8, 8, 8, 8, 8, 8, 8, 8, 8, 8, 8, 8, 8, 8, 8, 8, 8, 8, 8, 8, 8, 8, 8, 8, 8, 8, 8, 8, 8, 8, 8, 8, 8, 8, 8, 8, 8, 8, 8, 8, 8, 8, 8, 8, 8, 8, 8, 8, 8, 8, 8, 8, 8, 8, 8, 8, 8, 8, 8, 8, 8, 8, 8, 8, 8, 8, 8, 8, 8, 8, 8, 8, 8, 8]⟩ : ByteArray) (ji6)))))) else (none)) else (none)) = some r := by first | (rw [hji6] at H; exact H) | (simp only [hji6] at H ⊢; exact H)
          by_cases c7 : 0 ≤ (ji6)
          · rw [if_pos c7] at H
            have c7b0 : decide (0 ≤ (ji6)) = true := decide_eq_true c7
            clear c7
            by_cases c8 : (ji6) < 256
            · rw [if_pos c8] at H
              have c8b0 : decide ((ji6) < 256) = true := decide_eq_true c8
              clear c8
              obtain rfl := Option.some.inj H
              have p9 : 0 ≤ ((ji6) : Int) := of_decide_eq_true (by first | (with_reducible assumption) | assumption)
              have q9 : (ji6) < (256 : Int) := of_decide_eq_true (by first | (with_reducible assumption) | assumption)
              have hx9 := bt_at (⟨#[0, 1, 2, 2, 3, 3, 3, 3, 4, 4, 4, 4, 4, 4, 4, 4, 5, 5, 5, 5, 5, 5, 5, 5, 5, 5, 5, 5, 5, 5, 5, 5, 6, 6, 6, 6, 6, 6, 6, 6, 6, 6, 6, 6, 6, 6, 6, 6, 6, 6, 6, 6, 6, 6, 6, 6, 6, 6, 6, 6, 6, 6, 6, 6, 7, 7, 7, 7, 7, 7, 7, 7, 7, 7, 7, 7, 7, 7, 7, 7, 7, 7, 7, 7, 7, 7, 7, 7, 7, 7, 7, 7, 7, 7, 7, 7, 7, 7, 7, 7, 7, 7, 7, 7, 7, 7, 7, 7, 7, 7, 7, 7, 7, 7, 7, 7, 7, 7, 7, 7, 7, 7, 7, 7, 7, 7, 7, 7, 8, 8, 8, 8, 8, 8, 8, 8, 8, 8, 8, 8, 8, 8, 8, 8, 8, 8, 8, 8, 8, 8, 8, 8, 8, 8, 8, 8, 8, 8, 8, 8, 8, 8, 8, 8, 8, 8, 8, 8, 8, 8, 8, 8, 8, 8, 8, 8, 8, 8, 8, 8, 8, 8, 8, 8, 8, 8, 8, 8, 8, 8, 8, 8, 8, 8, 8, 8, 8, 8, 8, 8, 8, 8, 8, 8, 8, 8, 8, 8, 8, 8, 8, 8, 8, 8, 8, 8, 8, 8, 8, 8, 8, 8, 8, 8, 8, 8, 8, 8, 8, 8, 8, 8, 8, 8, 8, 8, 8, 8, 8, 8, 8, 8, 8, 8, 8, 8, 8, 8, 8, 8, 8, 8, 8, 8, 8, 8]⟩ : ByteArray) (ji6)
              replace p9 := eq_true p9
              replace q9 := eq_true q9
              go_wp2
              go_ret
              exact ⟨by first | rfl | (simp; done) | (simp only [← hji6] <;> (first | rfl | simp)) | (simp [*]; done), by repeat (first | exact Drawn0.refl _ | apply Drawn0.step)⟩
            · rw [if_neg c8] at H
              exact absurd H (by simp)
          · rw [if_neg c7] at H
            exact absurd H (by simp)
        · rw [if_neg c5] at H
          have c5b0 : decide (256 ≤ (x0_1 / 65536)) = false := decide_eq_false c5
          clear c5
          obtain ⟨ji10, hji10⟩ : ∃ j_ : Int, ((x0_1 / 65536) % 256) = j_ := ⟨_, rfl⟩
          replace H : (if 0 ≤ (ji10) then (if (ji10) < 256 then (some (wrap64 ((wrap64 (x2_1 + 16)) + (wrap64 (bt (⟨#[0, 1, 2, 2, 3, 3, 3, 3, 4, 4, 4, 4, 4, 4, 4, 4, 5, 5, 5, 5, 5, 5, 5, 5, 5, 5, 5, 5, 5, 5, 5, 5, 6, 6, 6, 6, 6, 6, 6, 6, 6, 6, 6, 6, 6, 6, 6, 6, 6, 6, 6, 6, 6, 6, 6, 6, 6, 6, 6, 6, 6, 6, 6, 6, 7, 7, 7, 7, 7, 7, 7, 7, 7, 7, 7, 7, 7, 7, 7, 7, 7, 7, 7, 7, 7, 7, 7, 7, 7, 7, 7, 7, 7, 7, 7, 7, 7, 7, 7, 7, 7, 7, 7, 7, 7, 7, 7, 7, 7, 7, 7, 7, 7, 7, 7, 7, 7, 7, 7, 7, 7, 7, 7, 7, 7, 7, 7, 7, 8, 8, 8, 8, 8, 8, 8, 8, 8, 8, 8, 8, 8, 8, 8, 8, 8, 8, 8, 8, 8, 8, 8, 8, 8, 8, 8, 8, 8, 8, 8, 8, 8, 8, 8, 8, 8, 8, 8, 8, 8, 8, 8, 8, 8, 8, 8, 8, 8, 8, 8, 8, 8, 8, 8, 8, 8, 8, 8, 8, 8, 8, 8, 8, 8, 8, 8, 8, 8, 8, 8, 8, 8, 8, 8, 8, 8, 8, 8, 8, 8, 8, 8, 8, 8, 8, 8, 8, 8, 8, 8, 8, 8, 8, 8, 8, 8, 8, 8, 8, 8, 8, 8, 8, 8, 8, 8, 8, 8, 8, 8, 8, 8, 8, 8, 8, 8, 8, 8, 8, 8, 8, 8, 8, 8, 8, 8, 8]⟩ : ByteArray) (ji10)))))) else (none)) else (none)) = some r := by first | (rw [hji10] at H; exact H) | (simp only [hji10] at H ⊢; exact H)
          by_cases c11 : 0 ≤ (ji10)
          · rw [if_pos c11] at H
            have c11b0 : decide (0 ≤ (ji10)) = true := decide_eq_true c11
            clear c11
            by_cases c12 : (ji10) < 256
            · rw [if_pos c12] at H
              have c12b0 : decide ((ji10) < 256) = true := decide_eq_true c12
              clear c12
              obtain rfl := Option.some.inj H
              have p13 : 0 ≤ ((ji10) : Int) := of_decide_eq_true (by first | (with_reducible assumption) | assumption)
              have q13 : (ji10) < (256 : Int) := of_decide_eq_true (by first | (with_reducible assumption) | assumption)
              have hx13 := bt_at (⟨#[0, 1, 2, 2, 3, 3, 3, 3, 4, 4, 4, 4, 4, 4, 4, 4, 5, 5, 5, 5, 5, 5, 5, 5, 5, 5, 5, 5, 5, 5, 5, 5, 6, 6, 6, 6, 6, 6, 6, 6, 6, 6, 6, 6, 6, 6, 6, 6, 6, 6, 6, 6, 6, 6, 6, 6, 6, 6, 6, 6, 6, 6, 6, 6, 7, 7, 7, 7, 7, 7, 7, 7, 7, 7, 7, 7, 7, 7, 7, 7, 7, 7, 7, 7, 7, 7, 7, 7, 7, 7, 7, 7, 7, 7, 7, 7, 7, 7, 7, 7, 7, 7, 7, 7, 7, 7, 7, 7, 7, 7, 7, 7, 7, 7, 7, 7, 7, 7, 7, 7, 7, 7, 7, 7, 7, 7, 7, 7, 8, 8, 8, 8, 8, 8, 8, 8, 8, 8, 8, 8, 8, 8, 8, 8, 8, 8, 8, 8, 8, 8, 8, 8, 8, 8, 8, 8, 8, 8, 8, 8, 8, 8, 8, 8, 8, 8, 8, 8, 8, 8, 8, 8, 8, 8, 8, 8, 8, 8, 8, 8, 8, 8, 8, 8, 8, 8, 8, 8, 8, 8, 8, 8, 8, 8, 8, 8, 8, 8, 8, 8, 8, 8, 8, 8, 8, 8, 8, 8, 8, 8, 8, 8, 8, 8, 8, 8, 8, 8, 8, 8, 8, 8, 8, 8, 8, 8, 8, 8, 8, 8, 8, 8, 8, 8, 8, 8, 8, 8, 8, 8, 8, 8, 8, 8, 8, 8, 8, 8, 8, 8, 8, 8, 8, 8, 8, 8]⟩ : ByteArray) (ji10)
              replace p13 := eq_true p13
              replace q13 := eq_true q13
              go_wp2
              go_ret
              exact ⟨by first | rfl | (simp; done) | (simp only [← hji10] <;> (first | rfl | simp)) | (simp [*]; done), by repeat (first | exact Drawn0.refl _ | apply Drawn0.step)⟩
            · rw [if_neg c12] at H
              exact absurd H (by simp)
          · rw [if_neg c11] at H
            exact absurd H (by simp)
      · rw [if_neg c4] at H
        have c4b0 : decide (65536 ≤ x0_1) = false := decide_eq_false c4
        clear c4
        by_cases c14 : x0_1 ≥ 256
        · rw [if_pos c14] at H
          have c14b0 : decide (256 ≤ x0_1) = true := decide_eq_true c14
          clear c14
          obtain ⟨ji15, hji15⟩ : ∃ j_ : Int, ((x0_1 / 256) % 256) = j_ := ⟨_, rfl⟩
          replace H : (if 0 ≤ (ji15) then (if (ji15) < 256 then (some (wrap64 ((wrap64 (x2_1 + 8)) + (wrap64 (bt (⟨#[0, 1, 2, 2, 3, 3, 3, 3, 4, 4, 4, 4, 4, 4, 4, 4, 5, 5, 5, 5, 5, 5, 5, 5, 5, 5, 5, 5, 5, 5, 5, 5, 6, 6, 6, 6, 6, 6, 6, 6, 6, 6, 6, 6, 6, 6, 6, 6, 6, 6, 6, 6, 6, 6, 6, 6, 6, 6, 6, 6, 6, 6, 6, 6, 7, 7, 7, 7, 7, 7, 7, 7, 7, 7, 7, 7, 7, 7, 7, 7, 7, 7, 7, 7, 7, 7, 7, 7, 7, 7, 7, 7, 7, 7, 7, 7, 7, 7, 7, 7, 7, 7, 7, 7, 7, 7, 7, 7, 7, 7, 7, 7, 7, 7, 7, 7, 7, 7, 7, 7, 7, 7, 7, 7, 7, 7, 7, 7, 8, 8, 8, 8, 8, 8, 8, 8, 8, 8, 8, 8, 8, 8, 8, 8, 8, 8, 8, 8, 8, 8, 8, 8, 8, 8, 8, 8, 8, 8, 8, 8, 8, 8, 8, 8, 8, 8, 8, 8, 8, 8, 8, 8, 8, 8, 8, 8, 8, 8, 8, 8, 8, 8, 8, 8, 8, 8, 8, 8, 8, 8, 8, 8, 8, 8, 8, 8, 8, 8, 8, 8, 8, 8, 8, 8, 8, 8, 8, 8, 8, 8, 8, 8, 8, 8, 8, 8, 8, 8, 8, 8, 8, 8, 8, 8, 8, 8, 8, 8, 8, 8, 8, 8, 8, 8, 8, 8, 8, 8, 8, 8, 8, 8, 8, 8, 8, 8, 8, 8, 8, 8, 8, 8, 8, 8, 8, 8]⟩ : ByteArray) (ji15)))))) else (none)) else (none)) = some r := by first | (rw [hji15] at H; exact H) | (simp only [hji15] at H ⊢; exact H)
          by_cases c16 : 0 ≤ (ji15)
          · rw [if_pos c16] at H
            have c16b0 : decide (0 ≤ (ji15)) = true := decide_eq_true c16
            clear c16
            by_cases c17 : (ji15) < 256
            · rw [if_pos c17] at H
              have c17b0 : decide ((ji15) < 256) = true := decide_eq_true c17
              clear c17
              obtain rfl := Option.some.inj H
              have p18 : 0 ≤ ((ji15) : Int) := of_decide_eq_true (by first | (with_reducible assumption) | assumption)
              have q18 : (ji15) < (256 : Int) := of_decide_eq_true (by first | (with_reducible assumption) | assumption)
              have hx18 := bt_at (⟨#[0, 1, 2, 2, 3, 3, 3, 3, 4, 4, 4, 4, 4, 4, 4, 4, 5, 5, 5, 5, 5, 5, 5, 5, 5, 5, 5, 5, 5, 5, 5, 5, 6, 6, 6, 6, 6, 6, 6, 6, 6, 6, 6, 6, 6, 6, 6, 6, 6, 6, 6, 6, 6, 6, 6, 6, 6, 6, 6, 6, 6, 6, 6, 6, 7, 7, 7, 7, 7, 7, 7, 7, 7, 7, 7, 7, 7, 7, 7, 7, 7, 7, 7, 7, 7, 7, 7, 7, 7, 7, 7, 7, 7, 7, 7, 7, 7, 7, 7, 7, 7, 7, 7, 7, 7, 7, 7, 7, 7, 7, 7, 7, 7, 7, 7, 7, 7, 7, 7, 7, 7, 7, 7, 7, 7, 7, 7, 7, 8, 8, 8, 8, 8, 8, 8, 8, 8, 8, 8, 8, 8, 8, 8, 8, 8, 8, 8, 8, 8, 8, 8, 8, 8, 8, 8, 8, 8, 8, 8, 8, 8, 8, 8, 8, 8, 8, 8, 8, 8, 8, 8, 8, 8, 8, 8, 8, 8, 8, 8, 8, 8, 8, 8, 8, 8, 8, 8, 8, 8, 8, 8, 8, 8, 8, 8, 8, 8, 8, 8, 8, 8, 8, 8, 8, 8, 8, 8, 8, 8, 8, 8, 8, 8, 8, 8, 8, 8, 8, 8, 8, 8, 8, 8, 8, 8, 8, 8, 8, 8, 8, 8, 8, 8, 8, 8, 8, 8, 8, 8, 8, 8, 8, 8, 8, 8, 8, 8, 8, 8, 8, 8, 8, 8, 8, 8, 8]⟩ : ByteArray) (ji15)
              replace p18 := eq_true p18
              replace q18 := eq_true q18
              go_wp2
              go_ret
              exact ⟨by first | rfl | (simp; done) | (simp only [← hji15] <;> (first | rfl | simp)) | (simp [*]; done), by repeat (first | exact Drawn0.refl _ | apply Drawn0.step)⟩
            · rw [if_neg c17] at H
              exact absurd H (by simp)
          · rw [if_neg c16] at H
            exact absurd H (by simp)
        · rw [if_neg c14] at H
          have c14b0 : decide (256 ≤ x0_1) = false := decide_eq_false c14
          clear c14
          obtain ⟨ji19, hji19⟩ : ∃ j_ : Int, ((x0_1) % 256) = j_ := ⟨_, rfl⟩
          replace H : (if 0 ≤ (ji19) then (if (ji19) < 256 then (some (wrap64 (x2_1 + (wrap64 (bt (⟨#[0, 1, 2, 2, 3, 3, 3, 3, 4, 4, 4, 4, 4, 4, 4, 4, 5, 5, 5, 5, 5, 5, 5, 5, 5, 5, 5, 5, 5, 5, 5, 5, 6, 6, 6, 6, 6, 6, 6, 6, 6, 6, 6, 6, 6, 6, 6, 6, 6, 6, 6, 6, 6, 6, 6, 6, 6, 6, 6, 6, 6, 6, 6, 6, 7, 7, 7, 7, 7, 7, 7, 7, 7, 7, 7, 7, 7, 7, 7, 7, 7, 7, 7, 7, 7, 7, 7, 7, 7, 7, 7, 7, 7, 7, 7, 7, 7, 7, 7, 7, 7, 7, 7, 7, 7, 7, 7, 7, 7, 7, 7, 7, 7, 7, 7, 7, 7, 7, 7, 7, 7, 7, 7, 7, 7, 7, 7, 7, 8, 8, 8, 8, 8, 8, 8, 8, 8, 8, 8, 8, 8, 8, 8, 8, 8, 8, 8, 8, 8, 8, 8, 8, 8, 8, 8, 8, 8, 8, 8, 8, 8, 8, 8, 8, 8, 8, 8, 8, 8, 8, 8, 8, 8, 8, 8, 8, 8, 8, 8, 8, 8, 8, 8, 8, 8, 8, 8, 8, 8, 8, 8, 8, 8, 8, 8, 8, 8, 8, 8, 8, 8, 8, 8, 8, 8, 8, 8, 8, 8, 8, 8, 8, 8, 8, 8, 8, 8, 8, 8, 8, 8, 8, 8, 8, 8, 8, 8, 8, 8, 8, 8, 8, 8, 8, 8, 8, 8, 8, 8, 8, 8, 8, 8, 8, 8, 8, 8, 8, 8, 8, 8, 8, 8, 8, 8, 8]⟩ : ByteArray) (ji19)))))) else (none)) else (none)) = some r := by first | (rw [hji19] at H; exact H) | (simp only [hji19] at H ⊢; exact H)
          by_cases c20 : 0 ≤ (ji19)
          · rw [if_pos c20] at H
            have c20b0 : decide (0 ≤ (ji19)) = true := decide_eq_true c20
            clear c20
            by_cases c21 : (ji19) < 256
            · rw [if_pos c21] at H
              have c21b0 : decide ((ji19) < 256) = true := decide_eq_true c21
              clear c21
              obtain rfl := Option.some.inj H
              have p22 : 0 ≤ ((ji19) : Int) := of_decide_eq_true (by first | (with_reducible assumption) | assumption)
              have q22 : (ji19) < (256 : Int) := of_decide_eq_true (by first | (with_reducible assumption) | assumption)
              have hx22 := bt_at (⟨#[0, 1, 2, 2, 3, 3, 3, 3, 4, 4, 4, 4, 4, 4, 4, 4, 5, 5, 5, 5, 5, 5, 5, 5, 5, 5, 5, 5, 5, 5, 5, 5, 6, 6, 6, 6, 6, 6, 6, 6, 6, 6, 6, 6, 6, 6, 6, 6, 6, 6, 6, 6, 6, 6, 6, 6, 6, 6, 6, 6, 6, 6, 6, 6, 7, 7, 7, 7, 7, 7, 7, 7, 7, 7, 7, 7, 7, 7, 7, 7, 7, 7, 7, 7, 7, 7, 7, 7, 7, 7, 7, 7, 7, 7, 7, 7, 7, 7, 7, 7, 7, 7, 7, 7, 7, 7, 7, 7, 7, 7, 7, 7, 7, 7, 7, 7, 7, 7, 7, 7, 7, 7, 7, 7, 7, 7, 7, 7, 8, 8, 8, 8, 8, 8, 8, 8, 8, 8, 8, 8, 8, 8, 8, 8, 8, 8, 8, 8, 8, 8, 8, 8, 8, 8, 8, 8, 8, 8, 8, 8, 8, 8, 8, 8, 8, 8, 8, 8, 8, 8, 8, 8, 8, 8, 8, 8, 8, 8, 8, 8, 8, 8, 8, 8, 8, 8, 8, 8, 8, 8, 8, 8, 8, 8, 8, 8, 8, 8, 8, 8, 8, 8, 8, 8, 8, 8, 8, 8, 8, 8, 8, 8, 8, 8, 8, 8, 8, 8, 8, 8, 8, 8, 8, 8, 8, 8, 8, 8, 8, 8, 8, 8, 8, 8, 8, 8, 8, 8, 8, 8, 8, 8, 8, 8, 8, 8, 8, 8, 8, 8, 8, 8, 8, 8, 8, 8]⟩ : ByteArray) (ji19)
              replace p22 := eq_true p22
              replace q22 := eq_true q22
              go_wp2
              go_ret
              exact ⟨by first | rfl | (simp; done) | (simp only [← hji19] <;> (first | rfl | simp)) | (simp [*]; done), by repeat (first | exact Drawn0.refl _ | apply Drawn0.step)⟩
            · rw [if_neg c21] at H
              exact absurd H (by simp)
          · rw [if_neg c20] at H
            exact absurd H (by simp)

/-! ### bits_Len: function 29 -/
def bits_Len.f (k : Nat) (a0 : Int) : Option (Int) := (bits_Len64.f k a0).bind fun t161 => (some t161)
theorem bits_Len.mono : ∀ a0 k, LeO (bits_Len.f k a0) (bits_Len.f (k + 1) a0) := by
  intro a0 k
  unfold bits_Len.f
  repeat' first
      | (with_reducible exact bits_Len64.mono _ _)
      | (with_reducible exact LeO.refl _)
      | (with_reducible exact LeO.none _)
      | (with_reducible refine LeO.ite ?_ ?_)
      | (with_reducible refine LeO.bind ?_ (fun _ => ?_))
      | exact bits_Len64.mono _ _
      | exact LeO.none _
      | refine LeO.ite ?_ ?_
      | refine LeO.bind ?_ (fun _ => ?_)
set_option maxHeartbeats 8000000 in
set_option maxRecDepth 100000 in
theorem bits_Len.calls (k : Nat) (a0 : Int) (r : Int) (w : World) (h : bits_Len.f k a0 = some r) :
    Calls Try.prog 29 #[.int .u64 a0] w fun e w' => e = .returned (.int .i64 r) ∧ Drawn0 w w' := by
  have H : ((bits_Len64.f k a0).bind fun t161 => (some t161)) = some r := h
  clear h
  replace H := Option.bind_eq_some_iff.mp H
  obtain ⟨t161, A20, H⟩ := H
  replace H : (some t161) = some r := H
  have A2 := Aside0.mk A20
  clear A20
  obtain rfl := Option.some.inj H
  go_enter Try.func29, Try.ntmps29
  go_wp2_with (first | ((with_reducible refine gate_callee (f := 41) rfl ?_); refine goesL_ (some 7) rfl rfl Try.func41 (by kernel_rfl) rfl #[.int .u64 a0] rfl (by (try simp only [List.map_toArray, List.map_cons, List.map_nil]); first | done | rfl | (simp only [List.length_drop, List.length_take]; rfl)) ?_; (with_reducible refine (bits_Len64.calls k a0 t161 _ A2.out).mono ?_); rintro e w' ⟨rfl, ⟨nd, rfl⟩⟩; refine ⟨_, rfl, ?_⟩))
  go_ret
  exact ⟨by first | rfl | (simp; done) | (simp [*]; done), by repeat (first | exact Drawn0.refl _ | apply Drawn0.step)⟩

-- NOT PRINTED: function 43 (slices_nextPowerOfTwo)

-- NOT PRINTED: function 44 (slices_xorshift_Next)

-- NOT PRINTED: function 33 (slices_breakPatternsOrdered_int64)

-- NOT PRINTED: function 48 (slices_order2Ordered_int64)

-- NOT PRINTED: function 46 (slices_medianOrdered_int64)

-- NOT PRINTED: function 45 (slices_medianAdjacentOrdered_int64)

-- NOT PRINTED: function 34 (slices_choosePivotOrdered_int64)

-- NOT PRINTED: function 35 (slices_reverseRangeOrdered_int64)

-- NOT PRINTED: function 36 (slices_partialInsertionSortOrdered_int64)

-- NOT PRINTED: function 38 (slices_partitionEqualOrdered_int64)

-- NOT PRINTED: function 39 (slices_partitionOrdered_int64)

/-! ### slices_pdqsortOrdered_int64: function 28 -/
def slices_pdqsortOrdered_int64.f (k : Nat) (l0 : List Int) (a1 : Int) (a2 : Int) (a3 : Int) : Option (List Int) := if wrap64 (a2 - a1) ≤ 12 then (slices_insertionSortOrdered_int64.f k l0 a1 a2) else none
theorem slices_pdqsortOrdered_int64.mono : ∀ a0 a1 a2 a3 k, LeO (slices_pdqsortOrdered_int64.f k a0 a1 a2 a3) (slices_pdqsortOrdered_int64.f (k + 1) a0 a1 a2 a3) := by
  intro a0 a1 a2 a3 k
  unfold slices_pdqsortOrdered_int64.f
  exact LeO.ite (slices_insertionSortOrdered_int64.mono _ _ _ _) (LeO.refl _)
set_option maxHeartbeats 8000000 in
set_option maxRecDepth 100000 in
theorem slices_pdqsortOrdered_int64.calls (k : Nat) (P0_ : Nat → Prop) (u9000_ : Value) (l0 : List Int) (a1 : Int) (a2 : Int) (a3 : Int) (r : List Int) (w0 w : World) (hB : Below w0.heap.size w0 w) (ho0 : Kd.R (Kd.int .i64) 2 w w0.heap.size P0_ u9000_ l0) (h : slices_pdqsortOrdered_int64.f k l0 a1 a2 a3 = some r) :
    Calls Try.prog 28 #[u9000_, .int .i64 a1, .int .i64 a2, .int .i64 a3] w fun e w' => e = .returned (.tuple #[]) ∧ Kd.R (Kd.int .i64) 2 w' w0.heap.size (fun k_ => (P0_ k_ ∨ w.heap.size ≤ k_)) u9000_ r ∧ Below w0.heap.size w0 w' ∧ Kept w w' (fun k_ => P0_ k_) := by
  unfold slices_pdqsortOrdered_int64.f at h
  by_cases c : wrap64 (a2 - a1) ≤ 12
  · rw [if_pos c] at h
    have hcon := slices_insertionSortOrdered_int64.calls k P0_ u9000_ l0 a1 a2 r w0 w hB ho0 h
    clear h hB ho0
    have c1 : decide (wrap64 (a2 - a1) ≤ 12) = true := decide_eq_true c
    clear c
    go_enter Try.func28, Try.ntmps28
    go_wp2
    refine wp_loop_rounds 1 ?_
    rw [rounds_succ]
    go_wp2_with (go_at_call 31; refine hcon.mono ?_; rintro e w' ⟨rfl, hr, hb, hk⟩)
    exact bodyPost_ret (results_none (by rfl) _ _ _) rfl ⟨rfl, hr, hb, hk⟩
  · rw [if_neg c] at h
    cases h


/-! ### impl_groups_int64_19: function 19 -/
def impl_groups_int64_19.f (k : Nat) (l0 : List Int) : Option (List Int) := (bits_Len.f k (IntKind.u64.wrap ((l0.length : Int)))).bind fun t162 => ((slices_pdqsortOrdered_int64.f k l0 0 (l0.length : Int) t162).bind fun t163 => (some t163))
theorem impl_groups_int64_19.mono : ∀ a0 k, LeO (impl_groups_int64_19.f k a0) (impl_groups_int64_19.f (k + 1) a0) := by
  intro a0 k
  unfold impl_groups_int64_19.f
  repeat' first
      | (with_reducible exact bits_Len.mono _ _)
      | (with_reducible exact slices_pdqsortOrdered_int64.mono _ _ _ _ _)
      | (with_reducible exact LeO.refl _)
      | (with_reducible exact LeO.none _)
      | (with_reducible refine LeO.ite ?_ ?_)
      | (with_reducible refine LeO.bind ?_ (fun _ => ?_))
      | exact bits_Len.mono _ _
      | exact slices_pdqsortOrdered_int64.mono _ _ _ _ _
      | exact LeO.none _
      | refine LeO.ite ?_ ?_
      | refine LeO.bind ?_ (fun _ => ?_)
set_option maxHeartbeats 8000000 in
set_option maxRecDepth 100000 in
theorem impl_groups_int64_19.calls (k : Nat) (P0_ : Nat → Prop) (u9000_ : Value) (l0 : List Int) (r : List Int) (w0 w : World) (hB : Below w0.heap.size w0 w) (ho0 : Kd.R (Kd.int .i64) 2 w w0.heap.size P0_ u9000_ l0) (h : impl_groups_int64_19.f k l0 = some r) :
    Calls Try.prog 19 #[u9000_] w fun e w' => e = .returned (.tuple #[]) ∧ Kd.R (Kd.int .i64) 2 w' w0.heap.size (fun k_ => (P0_ k_ ∨ w.heap.size ≤ k_)) u9000_ r ∧ Below w0.heap.size w0 w' ∧ Kept w w' (fun k_ => P0_ k_) := by
  have HO0 := Aside0.mk (show Kd.R (Kd.int .i64) 2 w w0.heap.size (fun k_ => (P0_ k_ ∨ w.heap.size ≤ k_)) u9000_ l0 from Kd.R_mono ho0 (fun k_ hk => (.inl hk)))
  have HK := Aside0.mk (Kept.refl w (fun k_ => P0_ k_))
  have HW0 := Aside0.mk hB.size
  have HB := Aside0.mk hB
  clear hB
  have H : ((bits_Len.f k (IntKind.u64.wrap ((l0.length : Int)))).bind fun t162 => ((slices_pdqsortOrdered_int64.f k l0 0 (l0.length : Int) t162).bind fun t163 => (some t163))) = some r := h
  clear h
  replace H := Option.bind_eq_some_iff.mp H
  obtain ⟨t162, A20, H⟩ := H
  replace H : ((slices_pdqsortOrdered_int64.f k l0 0 (l0.length : Int) t162).bind fun t163 => (some t163)) = some r := H
  have A2 := Aside0.mk A20
  clear A20
  replace H := Option.bind_eq_some_iff.mp H
  obtain ⟨t163, A30, H⟩ := H
  replace H : (some t163) = some r := H
  have A3 := Aside0.mk A30
  clear A30
  obtain rfl := Option.some.inj H
  obtain ⟨Ao4, co4, eo4⟩ := Kd.R_slice HO0.out
  subst eo4
  go_enter Try.func19, Try.ntmps19
  go_wp2_with (first | ((with_reducible refine gate_callee (f := 29) rfl ?_); refine goesL_ (some 9) rfl rfl Try.func29 (by kernel_rfl) rfl #[.int .u64 (IntKind.u64.wrap ((l0.length : Int)))] rfl (by (try simp only [List.map_toArray, List.map_cons, List.map_nil]); first | done | rfl | (simp only [List.length_drop, List.length_take]; rfl)) ?_; (with_reducible refine (bits_Len.calls k (IntKind.u64.wrap ((l0.length : Int))) t162 _ A2.out).mono ?_); rintro e w' ⟨rfl, ⟨nd, rfl⟩⟩; refine ⟨_, rfl, ?_⟩) | ((with_reducible refine gate_callee (f := 28) rfl ?_); refine goesL_ (some 10) rfl rfl Try.func28 (by kernel_rfl) rfl #[.slice Ao4 l0.length co4, .int .i64 0, .int .i64 (l0.length : Int), .int .i64 t162] rfl (by (try simp only [List.map_toArray, List.map_cons, List.map_nil]); first | done | rfl | (simp only [List.length_drop, List.length_take]; rfl)) ?_; (with_reducible refine (slices_pdqsortOrdered_int64.calls k (fun k_ => some k_ = (.slice Ao4 l0.length co4 : Value).ownBlock) (.slice Ao4 l0.length co4) l0 0 (l0.length : Int) t162 t163 w0 _ ?side1 ?side2 A3.out).mono ?_); (case side1 => repeat (first | (with_reducible first | exact HB.out | apply below_alloc | apply pw_below_drewN | apply below_drew1) | exact HB.out)); (case side2 => exact Kd.R_tight rfl HO0.out); rintro e w5 ⟨rfl, hy0, hb, hkp⟩; refine ⟨_, rfl, ?_⟩; have n0_ := Aside0.mk (Kd.R_reok rfl hy0 (fun k_ e_ => HO0.out.1 k_ e_)); have n1_ := Aside0.mk (Kept.then_ (S := (fun k_ => P0_ k_)) (by repeat (first | (with_reducible first | exact HK.out | apply Kept.alloc | apply Kept.drewN | apply Kept.drew) | exact HK.out)) hkp (fun k_ hs_ => (fun e_ => (HO0.out.1 k_ e_.symm)) hs_)); have n2_ := Aside0.mk (hb); clear HO0; clear HK; clear HB; have HO0 := n0_; have HK := n1_; have HB := n2_; clear n0_ n1_ n2_; (try clear hb); (try clear hkp); (try clear hy0)))
  first | go_end0 | ((try simp only [Exit.inBlock, Exit.then]); refine bodyPost_ret (results_none rfl _ _ _) rfl ?_)
  exact ⟨by first | rfl | (simp [errW_none, errW_some] <;> rfl) | (simp [*, errW_none, errW_some] <;> rfl), by (with_reducible repeat (first | apply Kd.R_alloc | apply Kd.R_drewN | apply Kd.R_drew)); exact HO0.out, by repeat (first | (with_reducible first | exact HB.out | apply below_alloc | apply pw_below_drewN | apply below_drew1) | exact HB.out), by repeat (first | (with_reducible first | exact HK.out | apply Kept.alloc | apply Kept.drewN | apply Kept.drew) | exact HK.out)⟩

-- NOT PRINTED: function 20 (impl_groups_int64_20)

/-! ### impl_PlatComponents: function 7 -/
def plt.mgo (hi lo : Int) : Nat → Int → List Int → List Int
  | 0, _, G => G
  | d + 1, i, G => plt.mgo hi lo d (i + 1) (if rd G i = hi then G.set i.toNat lo else G)
theorem plt.mgo_length (hi lo : Int) : ∀ (d : Nat) (i : Int) (G : List Int), (plt.mgo hi lo d i G).length = G.length
  | 0, _, _ => rfl
  | d + 1, i, G => by
    rw [plt.mgo, plt.mgo_length hi lo d]
    split
    · rw [List.length_set]
    · rfl
def plt.mx2 (a b : Int) : Int := if a < b then b else a
def plt.mn2 (a b : Int) : Int := if b < a then b else a
def plt.mg (G : List Int) (x y : Int) : List Int := plt.mgo (plt.mx2 (rd G x) (rd G y)) (plt.mn2 (rd G x) (rd G y)) G.length 0 G
theorem plt.mg_length (G : List Int) (x y : Int) : (plt.mg G x y).length = G.length := plt.mgo_length _ _ _ _ _
set_option maxHeartbeats 8000000 in
set_option maxRecDepth 100000 in
theorem mg_calls (n gG cG : Nat) (hn : n ≤ 8) (G : List Int) (x y : Int) (hl : G.length = n) (hx : 0 ≤ x ∧ x < n) (hy : 0 ≤ y ∧ y < n) (base : Nat) (ok : Nat → Prop) (W : World) (HG : Kd.R (Kd.int .i64) 2 W base ok (.slice (some ⟨gG, 0, none⟩) n cG) G) :
    Calls Try.prog 18 #[(.slice (some ⟨gG, 0, none⟩) n cG), .int .i64 x, .int .i64 y] W fun e W' => e = .returned (.tuple #[]) ∧ Kd.R (Kd.int .i64) 2 W' base ok (.slice (some ⟨gG, 0, none⟩) n cG) (plt.mg G x y) ∧ W.grownBy W' (some gG) := by
  have HR := Aside0.mk HG
  have HL := Aside0.mk hl
  have HX := Aside0.mk hx
  have HY := Aside0.mk hy
  have HN := Aside0.mk hn
  have HB2 := Aside0.mk (Below.refl W.heap.size W)
  obtain ⟨a, ha⟩ : ∃ z, rd G x = z := ⟨_, rfl⟩
  obtain ⟨b, hb⟩ : ∃ z, rd G y = z := ⟨_, rfl⟩
  have hzx : W.cell? ⟨gG, x.toNat, none⟩ = some (.int .i64 a) := by rw [← ha]; exact (Kd.R_celln 0 HG x hx.1 hx.2).1
  have hzy : W.cell? ⟨gG, y.toNat, none⟩ = some (.int .i64 b) := by rw [← hb]; exact (Kd.R_celln 0 HG y hy.1 hy.2).1
  have px0 : (0 ≤ x) = True := eq_true hx.1
  have px1 : (x < (n : Int)) = True := eq_true hx.2
  have py0 : (0 ≤ y) = True := eq_true hy.1
  have py1 : (y < (n : Int)) = True := eq_true hy.2
  have HAB := Aside0.mk (And.intro ha hb)
  clear HG hl hx hy hn ha hb
  go_enter Try.func18, Try.ntmps18
  try go_wp2
  go_quiet (fail)
  obtain ⟨hi, hhi⟩ : ∃ z, (if a < b then b else a) = z := ⟨_, rfl⟩
  obtain ⟨lo, hlo⟩ : ∃ z, (if b < a then b else a) = z := ⟨_, rfl⟩
  rw [hhi, hlo]
  have HMG : Aside0 (plt.mg G x y = plt.mgo hi lo n 0 G) := ⟨by unfold plt.mg plt.mx2 plt.mn2; rw [HAB.out.1, HAB.out.2, HL.out, hhi, hlo]⟩
  clear hhi hlo hzx hzy
  (first | (rw [drewN_self W]; generalize hq_ : World.drewN W _ = w1) | (rw [drew_self W]; generalize hq1_ : World.drew W = w1; have hq_ : World.drewN W 1 = w1 := hq1_; clear hq1_) | (rw [show W = World.drewN W 0 from rfl]; generalize hq_ : World.drewN W 0 = w1))
  have n_ := Aside0.mk (Kd.R_at hq_ HR.out); clear HR; have HR := n_; clear n_
  have n_ := Aside0.mk (ar_below_at hq_ HB2.out); clear HB2; have HB2 := n_; clear n_
  clear hq_
  have HG := Aside0.mk (grown_of_below HB2.out (some gG))
  have HRR : Aside0 (plt.mgo hi lo n 0 G = plt.mg G x y) := ⟨HMG.out.symm⟩
  clear HMG HB2 px0 px1 py0 py1
  go_wp2
  go_loopg [30] (n + 1) (fun kq v30 wr => ∃ (i : Int) (q : Nat) (G' : List Int), v30 = .int .i64 i ∧ Aside0 (q < kq) ∧ Aside0 ((q : Int) + i = (n : Int) ∧ 0 ≤ i) ∧ Aside0 (G'.length = n) ∧ Aside0 (plt.mgo hi lo q i G' = plt.mg G x y) ∧ Aside0 (Kd.R (Kd.int .i64) 2 wr base ok (.slice (some ⟨gG, 0, none⟩) n cG) G') ∧ Aside0 (W.grownBy wr (some gG)))
  case atStart => exact ⟨0, n, G, (by first | rfl | (simp; done) | (simp [*]; done)), ⟨by omega⟩, ⟨by omega⟩, HL, HRR, HR, HG⟩
  case round =>
    clear HR HG HRR HL
    obtain ⟨i, q, G', rfl, HQ, HI, HL, HRR, HR, HG⟩ := hrel
    cases gk with
    | zero => exact absurd HQ.out (Nat.not_lt_zero _)
    | succ k1_ =>
    cases q with
    | zero =>
      have cib : decide (i < (n : Int)) = false := decide_eq_false (by have := HI.out; omega)
      go_wp2
      have hf_ : G' = plt.mg G x y := HRR.out
      rw [← hf_]
      exact bodyPost_end (results_none (by rfl) _ _ _) rfl ⟨rfl, HR.out, HG.out⟩
    | succ q =>
      have hi0 : 0 ≤ i := HI.out.2
      have hi1 : i < (n : Int) := by have := HI.out; omega
      have cib : decide (i < (n : Int)) = true := decide_eq_true hi1
      have pi0 : (0 ≤ i) = True := eq_true hi0
      have pi1 : (i < (n : Int)) = True := eq_true hi1
      have HI0 := Aside0.mk (And.intro hi0 hi1)
      obtain ⟨v, hv⟩ : ∃ z, rd G' i = z := ⟨_, rfl⟩
      obtain ⟨hz_, hzf⟩ := Kd.R_celln 0 HR.out i hi0 hi1
      have hz : wr.cell? ⟨gG, i.toNat, none⟩ = some (.int .i64 v) := by rw [← hv]; exact hz_
      have HV := Aside0.mk hv
      clear hi0 hi1 hz_ hv
      have HW := Aside0.mk (show wrap64 (i + 1) = i + 1 by have := HI0.out; have := HN.out; unfold wrap64; omega)
      by_cases c1 : v = hi
      · have c1_0 : decide (v = hi) = true := decide_eq_true c1
        have c1_1 : (v == hi) = true := by simp [c1]
        have HC := Aside0.mk c1
        clear c1
        go_wp2
        go_roundg k1_
        case measure => omega
        case rel => exact ⟨wrap64 (i + 1), q, G'.set i.toNat lo, (by first | rfl | (simp; done) | (simp [*]; done)), ⟨by have := HQ.out; omega⟩, ⟨by have := HI.out; rw [HW.out]; omega⟩, ⟨by rw [List.length_set]; exact HL.out⟩, ⟨by have h_ := HRR.out; rw [plt.mgo, HV.out, if_pos HC.out] at h_; rw [HW.out]; exact h_⟩, ⟨Kd.R_putn HR.out i lo⟩, ⟨plgrown HG.out⟩⟩
      · have c1_0 : decide (v = hi) = false := decide_eq_false c1
        have c1_1 : (v == hi) = false := by simp [c1]
        have HC := Aside0.mk c1
        clear c1
        go_wp2
        go_roundg k1_
        case measure => omega
        case rel => exact ⟨wrap64 (i + 1), q, G', (by first | rfl | (simp; done) | (simp [*]; done)), ⟨by have := HQ.out; omega⟩, ⟨by have := HI.out; rw [HW.out]; omega⟩, HL, ⟨by have h_ := HRR.out; rw [plt.mgo, HV.out, if_neg HC.out] at h_; rw [HW.out]; exact h_⟩, HR, HG⟩
set_option maxHeartbeats 8000000 in
set_option maxRecDepth 100000 in
theorem cp_calls (blk cap : Nat) (d : Array Int) (w : World) (hH : Sort.Holds (Value.int .i64) w blk 0 d) (hsz : d.size ≤ 8) (h2 : 2 ≤ d.size) (hcap : d.size ≤ cap) :
    Calls Try.prog 20 #[.slice (some ⟨blk, 0, none⟩) d.size cap] w fun e w' => e = .returned (.slice (some ⟨blk, 0, none⟩) (Lib.compactUpTo d d.size).length cap) ∧ w.grownBy w' (some blk) := by
  have t22 := Try.underlying40
  have v3 : ∀ w, (zeroValue 2).run Try.prog w = .ok (.int .i64 0) w := fun w => by kernel_rfl
  have HH : Aside0 (Sort.Holds (Value.int .i64) w blk 0 d) := ⟨hH⟩
  have HG := Aside0.mk (plgrown0 w (some blk))
  have HSZ := Aside0.mk hsz
  have H2 := Aside0.mk h2
  have same : (∀ j, j < d.size → Lib.keeps d j = true) → (Lib.compactUpTo d d.size).length = d.size := by
    intro hall
    rw [Lib.compactUpTo_all d _ hall, Lib.range_map_get]
    simp
  have HS := Aside0.mk same
  have n2 : ¬ (d.size : Int) < 2 := by omega
  have n2b : decide ((d.size : Int) < 2) = false := decide_eq_false n2
  clear same hH hsz h2 n2
  go_enter Try.func20, Try.ntmps20
  go_wp2
  go_loopg [3] d.size (fun g s3 wr => ∃ k : Nat, Aside0 (1 ≤ k ∧ k ≤ d.size ∧ d.size - k ≤ g) ∧ s3 = .int .i64 k ∧ Aside0 (∀ j, j < k → Lib.keeps d j = true) ∧ Aside0 (Sort.Holds (Value.int .i64) wr blk 0 d) ∧ Aside0 (w.grownBy wr (some blk)))
  case atStart => exact ⟨1, ⟨Nat.le_refl _, by have := H2.out; omega, by omega⟩, rfl, ⟨Lib.keeps_lt_one d⟩, HH, HG⟩
  case round =>
    clear HH HG
    obtain ⟨k, HK, rfl, HA, HH, HG⟩ := hrel
    by_cases hlt : k < d.size
    · have c1 := (HH.out k hlt).1
      have c0 := (HH.out (k - 1) (by omega)).1
      rw [Nat.zero_add] at c1 c0
      obtain ⟨x, hx⟩ : ∃ z, d[k]! = z := ⟨_, rfl⟩
      obtain ⟨y, hy⟩ : ∃ z, d[k - 1]! = z := ⟨_, rfl⟩
      rw [hx] at c1
      rw [hy] at c0
      have B := Aside0.mk (And.intro hx hy)
      clear hx hy
      have kl : decide ((k : Int) < (d.size : Int)) = true := decide_eq_true (by omega)
      have k1 : wrap64 ((k : Int) - 1) = ((k - 1 : Nat) : Int) := by have := HK.out; have := HSZ.out; unfold wrap64; omega
      have HLT := Aside0.mk hlt
      have p0 : (0 ≤ (k : Int)) = True := eq_true (by omega)
      have p1 : ((k : Int) < (d.size : Int)) = True := eq_true (by have := HLT.out; omega)
      have p2 : (0 ≤ ((k - 1 : Nat) : Int)) = True := eq_true (by omega)
      have p3 : (((k - 1 : Nat) : Int) < (d.size : Int)) = True := eq_true (by have := HLT.out; omega)
      have hkc : k < cap := by omega
      have hkn : ¬ cap = k := by omega
      have HWK := Aside0.mk (show wrap64 ((k : Int) + 1) = ((k + 1 : Nat) : Int) by have := HLT.out; have := HSZ.out; unfold wrap64; omega)
      by_cases hdup : x = y
      · have e0 : (x == y) = true := by simp [hdup]
        have e1 : decide (x = y) = true := decide_eq_true hdup
        have HD := Aside0.mk hdup
        clear hdup
        try go_wp2
        go_quiet (fail)
        (first | (rw [drewN_self wr]; generalize hq_ : World.drewN wr _ = w5) | (rw [drew_self wr]; generalize hq1_ : World.drew wr = w5; have hq_ : World.drewN wr 1 = w5 := hq1_; clear hq1_) | (rw [show wr = World.drewN wr 0 from rfl]; generalize hq_ : World.drewN wr 0 = w5)); have n_ := Aside0.mk (plholds_at hq_ HH.out); clear HH; have HH := n_; clear n_; have n_ := Aside0.mk (plgrown_at hq_ HG.out); clear HG; have HG := n_; clear n_; clear hq_
        clear c1 c0
        go_wp2
        go_loopg [3, 5] d.size (fun g s3 s5 wr => ∃ (kk k2 : Nat) (dk : Array Int), s3 = .int .i64 kk ∧ s5 = .int .i64 k2 ∧ Aside0 (1 ≤ k2 ∧ k + k2 ≤ d.size ∧ d.size - (k + k2) ≤ g) ∧ Aside0 (Lib.CompInv d (k + k2) kk dk) ∧ Aside0 (Sort.Holds (Value.int .i64) wr blk 0 dk) ∧ Aside0 (w.grownBy wr (some blk)))
        case atStart => exact ⟨k, 1, d, rfl, rfl, ⟨Nat.le_refl _, by have := HLT.out; omega, by omega⟩, ⟨Lib.CompInv.start HA.out (Lib.keeps_neg (by have := HK.out; omega) (by rw [B.out.1, B.out.2]; exact HD.out))⟩, HH, HG⟩
        case round =>
          clear HH HG
          obtain ⟨kk, k2, dk, rfl, rfl, HK2, I2, HH, HG⟩ := hrel
          have hds := I2.out.size
          have hkk := I2.out.lt
          have HKK := Aside0.mk hkk
          by_cases hlt2 : k + k2 < d.size
          · have cm := (HH.out (k + k2) (by omega)).1
            have cp := (HH.out (k + k2 - 1) (by omega)).1
            have ck := HH.out kk (by omega)
            rw [I2.out.high (k + k2) (by omega), Nat.zero_add] at cm
            rw [I2.out.high (k + k2 - 1) (by omega), Nat.zero_add, show k + k2 - 1 = k + (k2 - 1) by have := HK2.out; omega] at cp
            rw [Nat.zero_add] at ck
            obtain ⟨ck1, ck2⟩ := ck
            obtain ⟨u, hu⟩ : ∃ z, d[k + k2]! = z := ⟨_, rfl⟩
            obtain ⟨v, hv⟩ : ∃ z, d[k + (k2 - 1)]! = z := ⟨_, rfl⟩
            rw [hu] at cm
            rw [hv] at cp
            have C := Aside0.mk (And.intro hu hv)
            have HL2 := Aside0.mk hlt2
            have l2 : decide ((k2 : Int) < ((d.size - k : Nat) : Int)) = true := decide_eq_true (by omega)
            have k21 : wrap64 ((k2 : Int) - 1) = ((k2 - 1 : Nat) : Int) := by have := HK2.out; have := HSZ.out; unfold wrap64; omega
            have HW2 := Aside0.mk (show wrap64 ((k2 : Int) + 1) = ((k2 + 1 : Nat) : Int) by have := hlt2; have := HSZ.out; unfold wrap64; omega)
            have HW3 := Aside0.mk (show wrap64 ((kk : Int) + 1) = ((kk + 1 : Nat) : Int) by have := hlt2; have := hkk; have := HSZ.out; unfold wrap64; omega)
            have r0 : (0 ≤ (k2 : Int)) = True := eq_true (by omega)
            have r1 : ((k2 : Int) < ((d.size - k : Nat) : Int)) = True := eq_true (by omega)
            have r2 : (0 ≤ ((k2 - 1 : Nat) : Int)) = True := eq_true (by omega)
            have r3 : (((k2 - 1 : Nat) : Int) < ((d.size - k : Nat) : Int)) = True := eq_true (by omega)
            have r4 : (0 ≤ (kk : Int)) = True := eq_true (by omega)
            have r5 : ((kk : Int) < (d.size : Int)) = True := eq_true (by omega)
            clear hu hv hlt2 hds hkk
            by_cases huv : u = v
            · have e2 : (u == v) = true := by simp [huv]
              have e3 : (u != v) = false := by simp [huv]
              have HUV := Aside0.mk huv
              clear huv
              try go_wp2
              go_quiet (fail)
              (first | (rw [drewN_self wr]; generalize hq_ : World.drewN wr _ = w6) | (rw [drew_self wr]; generalize hq1_ : World.drew wr = w6; have hq_ : World.drewN wr 1 = w6 := hq1_; clear hq1_) | (rw [show wr = World.drewN wr 0 from rfl]; generalize hq_ : World.drewN wr 0 = w6)); have n_ := Aside0.mk (plholds_at hq_ HH.out); clear HH; have HH := n_; clear n_; have n_ := Aside0.mk (plgrown_at hq_ HG.out); clear HG; have HG := n_; clear n_; clear hq_
              go_wp2
              go_roundg (d.size - (k + (k2 + 1)))
              case measure => have h1_ := HK2.out; have h2_ := HL2.out; omega
              case rel => exact ⟨kk, k2 + 1, dk, rfl, by rw [HW2.out], ⟨by omega, by have h2_ := HL2.out; omega, Nat.le_refl _⟩, ⟨I2.out.skip (Lib.keeps_neg (by have h1_ := HK2.out; omega) (by rw [C.out.1, show k + k2 - 1 = k + (k2 - 1) by have h1_ := HK2.out; omega, C.out.2]; exact HUV.out))⟩, HH, HG⟩
            · have e2 : (u == v) = false := by simp [huv]
              have e3 : (u != v) = true := by simp [huv]
              have HUV := Aside0.mk huv
              have HCM := Aside0.mk cm
              have HCK := Aside0.mk ck1
              have HCF := Aside0.mk ck2
              clear huv
              try go_wp2
              go_quiet (fail)
              (first | (rw [drewN_self wr]; generalize hq_ : World.drewN wr _ = w6) | (rw [drew_self wr]; generalize hq1_ : World.drew wr = w6; have hq_ : World.drewN wr 1 = w6 := hq1_; clear hq1_) | (rw [show wr = World.drewN wr 0 from rfl]; generalize hq_ : World.drewN wr 0 = w6)); have n_ := Aside0.mk (plholds_at hq_ HH.out); clear HH; have HH := n_; clear n_; have n_ := Aside0.mk (plgrown_at hq_ HG.out); clear HG; have HG := n_; clear n_; have n_ := Aside0.mk (plcell_at hq_ HCM.out); clear HCM; have HCM := n_; clear n_; have n_ := Aside0.mk (plcell_at hq_ HCK.out); clear HCK; have HCK := n_; clear n_; have n_ := Aside0.mk (plfroz_at hq_ HCF.out); clear HCF; have HCF := n_; clear n_; clear hq_
              clear cm cp ck1 ck2
              have cm := HCM.out
              have ck1 := HCK.out
              have ck2 := HCF.out
              go_wp2
              go_roundg (d.size - (k + (k2 + 1)))
              case measure => have h1_ := HK2.out; have h2_ := HL2.out; omega
              case rel => exact ⟨kk + 1, k2 + 1, dk.setIfInBounds kk u, by rw [HW3.out], by rw [HW2.out], ⟨by omega, by have h2_ := HL2.out; omega, Nat.le_refl _⟩, ⟨by have h_ := I2.out.keep HL2.out (Lib.keeps_pos (by rw [C.out.1, show k + k2 - 1 = k + (k2 - 1) by have h1_ := HK2.out; omega, C.out.2]; exact HUV.out)); rwa [C.out.1] at h_⟩, ⟨plholds HH.out kk (by have h1_ := I2.out.size; have h2_ := HL2.out; have h3_ := HKK.out; omega) u⟩, ⟨plgrown HG.out⟩⟩
          · have hend : k + k2 = d.size := by have := HK2.out; omega
            have hcl : ∀ ty, (Builtin.clear_ #[40] ty #[.slice (some ⟨blk, kk, none⟩) (d.size - kk) (cap - kk)]).run Try.prog wr = .ok (.tuple #[]) (wr.setCells blk kk (List.replicate (d.size - kk) (.int .i64 0))) :=
              fun ty => Lib.run_clear_slice wr _ _ ty _ t22 v3 rfl rfl blk kk _ _ (by omega) (fun j hj => by have h_ := (HH.out (kk + j) (by omega)).1; rw [Nat.zero_add] at h_; rw [h_]; rfl) (fun j hj => by have h_ := (HH.out (kk + j) (by omega)).2; rw [Nat.zero_add] at h_; exact h_)
            have l2 : decide ((k2 : Int) < ((d.size - k : Nat) : Int)) = false := decide_eq_false (by omega)
            have l3 : (k2 < d.size - k) = False := eq_false (by omega)
            have hk9 : kk ≤ d.size := by omega
            have hkc : kk < cap := by omega
            have hkn : ¬ cap = kk := by omega
            have HE := Aside0.mk hend
            clear hend hlt2 hds hkk
            go_wp2
            go_ret
            have hI := I2.out
            rw [HE.out] at hI
            exact ⟨by rw [hI.len]; rfl, plgrowns HG.out _ _⟩
      · have e0 : (x == y) = false := by simp [hdup]
        have e1 : decide (x = y) = false := decide_eq_false hdup
        have HD := Aside0.mk hdup
        clear hdup
        try go_wp2
        go_quiet (fail)
        (first | (rw [drewN_self wr]; generalize hq_ : World.drewN wr _ = w6) | (rw [drew_self wr]; generalize hq1_ : World.drew wr = w6; have hq_ : World.drewN wr 1 = w6 := hq1_; clear hq1_) | (rw [show wr = World.drewN wr 0 from rfl]; generalize hq_ : World.drewN wr 0 = w6)); have n_ := Aside0.mk (plholds_at hq_ HH.out); clear HH; have HH := n_; clear n_; have n_ := Aside0.mk (plgrown_at hq_ HG.out); clear HG; have HG := n_; clear n_; clear hq_
        go_wp2
        go_roundg (d.size - (k + 1))
        case measure => have h1_ := HK.out; have h2_ := HLT.out; omega
        case rel =>
          refine ⟨k + 1, ⟨by omega, by have h2_ := HLT.out; omega, Nat.le_refl _⟩, by rw [HWK.out], ⟨fun j hj => ?_⟩, HH, HG⟩
          by_cases e : j = k
          · subst e
            exact Lib.keeps_pos (by rw [B.out.1, B.out.2]; exact HD.out)
          · exact HA.out j (by omega)
    · have hk : k = d.size := by have := HK.out; omega
      subst hk
      have kl : decide ((d.size : Int) < (d.size : Int)) = false := decide_eq_false (by omega)
      go_wp2
      go_ret
      exact ⟨by rw [HS.out HA.out]; rfl, HG.out⟩
def plt.ml (at_ : List Int) : Nat → Int → List Int → List Int
  | 0, _, G => G
  | d + 1, k, G => plt.ml at_ d (k + 2) (plt.mg (plt.mg G k (k + 1)) (rd at_ k) (rd at_ (k + 1)))
theorem plt.ml_length (at_ : List Int) : ∀ (d : Nat) (k : Int) (G : List Int), (plt.ml at_ d k G).length = G.length
  | 0, _, _ => rfl
  | d + 1, k, G => by rw [plt.ml, plt.ml_length at_ d, plt.mg_length, plt.mg_length]
def plt.okI (n : Int) (g at_ : List Int) : Bool := decide (2 ≤ n ∧ n ≤ 8 ∧ n % 2 = 0 ∧ g.length = n.toNat ∧ at_.length = n.toNat) && at_.all fun z => decide (0 ≤ z ∧ z < n)
theorem plt.okI_iff {n : Int} {g at_ : List Int} (h : plt.okI n g at_ = true) : (2 ≤ n ∧ n ≤ 8 ∧ n % 2 = 0 ∧ g.length = n.toNat ∧ at_.length = n.toNat) ∧ ∀ y : Int, 0 ≤ y ∧ y < n → 0 ≤ rd at_ y ∧ rd at_ y < n := by
  simp only [plt.okI, Bool.and_eq_true, decide_eq_true_eq, List.all_eq_true] at h
  refine ⟨h.1, fun y hy => h.2 _ ?_⟩
  unfold rd
  rw [List.getD_eq_getElem?_getD, List.getElem?_eq_getElem (by omega : y.toNat < at_.length)]
  exact List.getElem_mem _
def impl_PlatComponents.f (k : Nat) (a0_0 : Int) (l0_1 : List Int) : Option (Int × Int) := (impl_IsBraid.f k a0_0 l0_1).bind fun t => if t = true then (if Int.tmod a0_0 2 = 1 then some (0, 5) else (impl_fineGroups.f k a0_0).bind fun g => (impl_follow.f k a0_0 l0_1 0).bind fun at_ => if plt.okI a0_0 g at_ = true then (impl_groups_int64_19.f k (plt.ml at_ (a0_0.toNat / 2) 0 g)).bind fun S => if S.length = a0_0.toNat then some (((Lib.compactUpTo S.toArray S.toArray.size).length : Int), 0) else none else none) else some (0, 1)
theorem impl_PlatComponents.mono : ∀ a0 a1 k, LeO (impl_PlatComponents.f k a0 a1) (impl_PlatComponents.f (k + 1) a0 a1) := by
  intro a0 a1 k
  unfold impl_PlatComponents.f
  exact LeO.bind (impl_IsBraid.mono _ _ _) (fun _ => LeO.ite (LeO.ite (LeO.refl _) (LeO.bind (impl_fineGroups.mono _ _) (fun _ => LeO.bind (impl_follow.mono _ _ _ _) (fun _ => LeO.ite (LeO.bind (impl_groups_int64_19.mono _ _) (fun _ => LeO.refl _)) (LeO.refl _))))) (LeO.refl _))
def plm.T11 : Bool × List (List Nat × List Nat) := (true, [([], []), ([], []), ([], []), ([1, 2], [1, 2]), ([3], [3]), ([], []), ([], []), ([6], [6]), ([5, 7], [5, 7]), ([8], [8]), ([0, 4, 9], [0, 4, 9])])
def plm.B11 : List Nat := [0, 0, 0, 6, 14, 0, 0, 64, 224, 480, 1023]
theorem plm.tab11 : rtab .any (opsOf Try.f7 11) = plm.T11 := by kernel_rfl
theorem plm.bits11 : waitsOk plm.T11.2 plm.B11 = true := by kernel_rfl
set_option maxHeartbeats 8000000 in
set_option maxRecDepth 100000 in
theorem impl_PlatComponents.calls (k : Nat) (a0_0 : Int) (A0_1 : Option Addr) (c0_1 : Nat) (l0_1 : List Int) (r1 : Int) (r2 : Int) (w : World) (hr0_1 : Kd.C (Kd.int .i64) w A0_1 l0_1.length l0_1) (hc0_1 : l0_1.length ≤ c0_1) (h : impl_PlatComponents.f k a0_0 l0_1 = some (r1, r2)) :
    Calls Try.prog 7 #[.agg #[.int .i64 a0_0, .slice A0_1 l0_1.length c0_1]] w fun e w' => e = .returned (.tuple #[.int .i64 r1, .int .i64 r2]) ∧ Below w.heap.size w w' := by
  have hu := Try.underlying28
  have HR0 := Aside0.mk hr0_1
  have HC0 := Aside0.mk hc0_1
  clear hr0_1 hc0_1
  have HB := Aside0.mk (Below.refl w.heap.size w)
  have H := h
  clear h
  unfold impl_PlatComponents.f at H
  obtain ⟨t1, A1, H⟩ := Option.bind_eq_some_iff.mp H
  replace A1 := Aside0.mk A1
  cases t1 with
  | false =>
    simp only [Bool.false_eq_true, if_false, Option.some.injEq, Prod.mk.injEq] at H
    obtain ⟨rfl, rfl⟩ := H
    go_enter Try.func7, Try.ntmps7
    go_wp2_with (first | ((with_reducible refine gate_dst (N := 1) rfl ?_); refine box_event ?hg (N := 1) ?hd (cs := #[.int .i64 a0_0, .slice A0_1 l0_1.length c0_1]) (t := 28) ?hr ?_; (case hd => rfl); (case hg => rfl); (case hr => first | (go_simp; done) | (go_simp; rfl)); intro gb hg w1 hbox hb; have GE_gb : Aside0 (w.heap.size ≤ gb) := ⟨by rw [hg]; exact below_size (by repeat (first | (with_reducible first | exact HB.out | apply below_alloc | apply pw_below_drewN | apply below_drew1) | exact HB.out))⟩; have n_ := Aside0.mk (below_step (by repeat (first | (with_reducible first | exact HB.out | apply below_alloc | apply pw_below_drewN | apply below_drew1) | exact HB.out)) hb); clear HB; have HB := n_; clear n_; have BKb := Aside0.mk hbox; clear hbox hb hg; (try clear hzgb_0 hfgb_0 hzgb_1 hfgb_1); have hzgb_0 := (blk_cell BKb.out 0).trans rfl; have hfgb_0 := blk_frozen BKb.out 0; have hzgb_1 := (blk_cell BKb.out 1).trans rfl; have hfgb_1 := blk_frozen BKb.out 1) | ((with_reducible refine gate_callee (f := 14) rfl ?_); refine goesL_ (some 9) rfl rfl Try.func14 (by kernel_rfl) rfl #[.agg #[.int .i64 a0_0, .slice A0_1 l0_1.length c0_1]] rfl (by (try simp only [List.map_toArray, List.map_cons, List.map_nil]); first | done | rfl) ?_; (with_reducible refine (impl_IsBraid.calls k a0_0 _ _ l0_1 _ _ ?side1 ?side2 A1.out).mono ?_); (case side1 => repeat (first | exact (Kd.C_below HR0.out HB.out) | (with_reducible refine Kd.C_alloc ?_ _) | (with_reducible refine Kd.C_drewN ?_ _) | (with_reducible refine Kd.C_drew ?_))); (case side2 => exact HC0.out); rintro e wi ⟨rfl, hb⟩; refine ⟨_, rfl, ?_⟩; have n_ := Aside0.mk (blk_below (by (with_reducible repeat (first | refine blk_drewN ?_ _ | refine blk_drew ?_ | refine blk_alloc ?_ _)); exact BKb.out) hb); clear BKb; have BKb := n_; clear n_; have n_ := Aside0.mk (below_step (by repeat (first | (with_reducible first | exact HB.out | apply below_alloc | apply pw_below_drewN | apply below_drew1) | exact HB.out)) hb); clear HB; have HB := n_; clear n_; (try clear hzgb_0 hfgb_0 hzgb_1 hfgb_1); have hzgb_0 := (blk_cell BKb.out 0).trans rfl; have hfgb_0 := blk_frozen BKb.out 0; have hzgb_1 := (blk_cell BKb.out 1).trans rfl; have hfgb_1 := blk_frozen BKb.out 1; clear hb))
    go_ret2
    exact ⟨rfl, (by repeat (first | (with_reducible first | exact HB.out | apply below_alloc | apply pw_below_drewN | apply below_drew1) | exact HB.out))⟩
  | true =>
    simp only [if_true] at H
    by_cases hm : Int.tmod a0_0 2 = 1
    case pos =>
      rw [if_pos hm] at H
      have hm1 : (Int.tmod a0_0 2 == 1) = true := by simp [hm]
      have hm2 : decide (Int.tmod a0_0 2 = 1) = true := by simp [hm]
      simp only [Option.some.injEq, Prod.mk.injEq] at H
      obtain ⟨rfl, rfl⟩ := H
      clear hm
      go_enter Try.func7, Try.ntmps7
      go_wp2_with (first | ((with_reducible refine gate_dst (N := 1) rfl ?_); refine box_event ?hg (N := 1) ?hd (cs := #[.int .i64 a0_0, .slice A0_1 l0_1.length c0_1]) (t := 28) ?hr ?_; (case hd => rfl); (case hg => rfl); (case hr => first | (go_simp; done) | (go_simp; rfl)); intro gb hg w1 hbox hb; have GE_gb : Aside0 (w.heap.size ≤ gb) := ⟨by rw [hg]; exact below_size (by repeat (first | (with_reducible first | exact HB.out | apply below_alloc | apply pw_below_drewN | apply below_drew1) | exact HB.out))⟩; have n_ := Aside0.mk (below_step (by repeat (first | (with_reducible first | exact HB.out | apply below_alloc | apply pw_below_drewN | apply below_drew1) | exact HB.out)) hb); clear HB; have HB := n_; clear n_; have BKb := Aside0.mk hbox; clear hbox hb hg; (try clear hzgb_0 hfgb_0 hzgb_1 hfgb_1); have hzgb_0 := (blk_cell BKb.out 0).trans rfl; have hfgb_0 := blk_frozen BKb.out 0; have hzgb_1 := (blk_cell BKb.out 1).trans rfl; have hfgb_1 := blk_frozen BKb.out 1) | ((with_reducible refine gate_callee (f := 14) rfl ?_); refine goesL_ (some 9) rfl rfl Try.func14 (by kernel_rfl) rfl #[.agg #[.int .i64 a0_0, .slice A0_1 l0_1.length c0_1]] rfl (by (try simp only [List.map_toArray, List.map_cons, List.map_nil]); first | done | rfl) ?_; (with_reducible refine (impl_IsBraid.calls k a0_0 _ _ l0_1 _ _ ?side1 ?side2 A1.out).mono ?_); (case side1 => repeat (first | exact (Kd.C_below HR0.out HB.out) | (with_reducible refine Kd.C_alloc ?_ _) | (with_reducible refine Kd.C_drewN ?_ _) | (with_reducible refine Kd.C_drew ?_))); (case side2 => exact HC0.out); rintro e wi ⟨rfl, hb⟩; refine ⟨_, rfl, ?_⟩; have n_ := Aside0.mk (blk_below (by (with_reducible repeat (first | refine blk_drewN ?_ _ | refine blk_drew ?_ | refine blk_alloc ?_ _)); exact BKb.out) hb); clear BKb; have BKb := n_; clear n_; have n_ := Aside0.mk (below_step (by repeat (first | (with_reducible first | exact HB.out | apply below_alloc | apply pw_below_drewN | apply below_drew1) | exact HB.out)) hb); clear HB; have HB := n_; clear n_; (try clear hzgb_0 hfgb_0 hzgb_1 hfgb_1); have hzgb_0 := (blk_cell BKb.out 0).trans rfl; have hfgb_0 := blk_frozen BKb.out 0; have hzgb_1 := (blk_cell BKb.out 1).trans rfl; have hfgb_1 := blk_frozen BKb.out 1; clear hb))
      go_ret2
      exact ⟨rfl, (by repeat (first | (with_reducible first | exact HB.out | apply below_alloc | apply pw_below_drewN | apply below_drew1) | exact HB.out))⟩
    rw [if_neg hm] at H
    have hm1 : (Int.tmod a0_0 2 == 1) = false := by simp [hm]
    have hm2 : decide (Int.tmod a0_0 2 = 1) = false := by simp [hm]
    clear hm
    obtain ⟨g, A2, H⟩ := Option.bind_eq_some_iff.mp H
    obtain ⟨at_, A3, H⟩ := Option.bind_eq_some_iff.mp H
    by_cases ho : plt.okI a0_0 g at_ = true
    case neg => rw [if_neg ho] at H; cases H
    rw [if_pos ho] at H
    obtain ⟨S, A4, H⟩ := Option.bind_eq_some_iff.mp H
    by_cases hs : S.length = a0_0.toNat
    case neg => rw [if_neg hs] at H; cases H
    rw [if_pos hs, Option.some.injEq, Prod.mk.injEq] at H
    obtain ⟨rfl, rfl⟩ := H
    obtain ⟨n, hn⟩ : ∃ n : Nat, a0_0 = n := ⟨a0_0.toNat, by have := (plt.okI_iff ho).1; omega⟩
    subst hn
    have HO := Aside0.mk (plt.okI_iff ho)
    rw [Int.toNat_natCast] at hs A4
    have HS := Aside0.mk hs
    replace A2 := Aside0.mk A2
    replace A3 := Aside0.mk A3
    replace A4 := Aside0.mk A4
    have hm3 : ((n : Int) % 2 == 1) = false := by rw [show (n : Int) % 2 = 0 by have h1_ := HO.out.1; omega]; rfl
    have hm4 : decide ((n : Int) % 2 = 1) = false := by rw [show (n : Int) % 2 = 0 by have h1_ := HO.out.1; omega]; rfl
    clear ho hs
    go_enter Try.func7, Try.ntmps7
    go_wp2_with (first | ((with_reducible refine gate_dst (N := 1) rfl ?_); refine box_event ?hg (N := 1) ?hd (cs := #[.int .i64 (n : Int), .slice A0_1 l0_1.length c0_1]) (t := 28) ?hr ?_; (case hd => rfl); (case hg => rfl); (case hr => first | (go_simp; done) | (go_simp; rfl)); intro gb hg w1 hbox hb; have GE_gb : Aside0 (w.heap.size ≤ gb) := ⟨by rw [hg]; exact below_size (by repeat (first | (with_reducible first | exact HB.out | apply below_alloc | apply pw_below_drewN | apply below_drew1) | exact HB.out))⟩; have n_ := Aside0.mk (below_step (by repeat (first | (with_reducible first | exact HB.out | apply below_alloc | apply pw_below_drewN | apply below_drew1) | exact HB.out)) hb); clear HB; have HB := n_; clear n_; have BKb := Aside0.mk hbox; clear hbox hb hg; (try clear hzgb_0 hfgb_0 hzgb_1 hfgb_1); have hzgb_0 := (blk_cell BKb.out 0).trans rfl; have hfgb_0 := blk_frozen BKb.out 0; have hzgb_1 := (blk_cell BKb.out 1).trans rfl; have hfgb_1 := blk_frozen BKb.out 1) | ((with_reducible refine gate_callee (f := 14) rfl ?_); refine goesL_ (some 9) rfl rfl Try.func14 (by kernel_rfl) rfl #[.agg #[.int .i64 (n : Int), .slice A0_1 l0_1.length c0_1]] rfl (by (try simp only [List.map_toArray, List.map_cons, List.map_nil]); first | done | rfl) ?_; (with_reducible refine (impl_IsBraid.calls k (n : Int) _ _ l0_1 _ _ ?side1 ?side2 A1.out).mono ?_); (case side1 => repeat (first | exact (Kd.C_below HR0.out HB.out) | (with_reducible refine Kd.C_alloc ?_ _) | (with_reducible refine Kd.C_drewN ?_ _) | (with_reducible refine Kd.C_drew ?_))); (case side2 => exact HC0.out); rintro e wi ⟨rfl, hb⟩; refine ⟨_, rfl, ?_⟩; have n_ := Aside0.mk (blk_below (by (with_reducible repeat (first | refine blk_drewN ?_ _ | refine blk_drew ?_ | refine blk_alloc ?_ _)); exact BKb.out) hb); clear BKb; have BKb := n_; clear n_; have n_ := Aside0.mk (below_step (by repeat (first | (with_reducible first | exact HB.out | apply below_alloc | apply pw_below_drewN | apply below_drew1) | exact HB.out)) hb); clear HB; have HB := n_; clear n_; (try clear hzgb_0 hfgb_0 hzgb_1 hfgb_1); have hzgb_0 := (blk_cell BKb.out 0).trans rfl; have hfgb_0 := blk_frozen BKb.out 0; have hzgb_1 := (blk_cell BKb.out 1).trans rfl; have hfgb_1 := blk_frozen BKb.out 1; clear hb) | ((with_reducible refine gate_callee (f := 15) rfl ?_); refine goesL_ (some 18) rfl rfl Try.func15 (by kernel_rfl) rfl #[.int .i64 (n : Int)] rfl (by (try simp only [List.map_toArray, List.map_cons, List.map_nil]); first | done | rfl) ?_; (with_reducible refine (impl_fineGroups.calls k (n : Int) g _ A2.out).mono ?_); rintro e w3 ⟨v18, rfl, ho_, hb⟩; refine ⟨_, rfl, ?_⟩; obtain ⟨gG, cG, eG, hgb_, hgl_, _⟩ := Kd.R_form ho_ (by have h1_ := HO.out.1; omega); rw [show g.length = n by have h1_ := HO.out.1; omega] at eG; subst eG; have HGG : Aside0 (gb < gG) := ⟨Nat.lt_of_lt_of_le (blk_lt BKb.out) hgb_⟩; have SG := Aside0.mk (Kd.R_lower ho_ (below_size (by repeat (first | (with_reducible first | exact HB.out | apply below_alloc | apply pw_below_drewN | apply below_drew1) | exact HB.out)))); have n_ := Aside0.mk (blk_below (by (with_reducible repeat (first | refine blk_drewN ?_ _ | refine blk_drew ?_ | refine blk_alloc ?_ _)); exact BKb.out) hb); clear BKb; have BKb := n_; clear n_; have n_ := Aside0.mk (below_step (by repeat (first | (with_reducible first | exact HB.out | apply below_alloc | apply pw_below_drewN | apply below_drew1) | exact HB.out)) hb); clear HB; have HB := n_; clear n_; (try clear hzgb_0 hfgb_0 hzgb_1 hfgb_1); have hzgb_0 := (blk_cell BKb.out 0).trans rfl; have hfgb_0 := blk_frozen BKb.out 0; have hzgb_1 := (blk_cell BKb.out 1).trans rfl; have hfgb_1 := blk_frozen BKb.out 1; clear hb ho_ hgb_) | ((with_reducible refine gate_callee (f := 16) rfl ?_); refine goesL_ (some 20) rfl rfl Try.func16 (by kernel_rfl) rfl #[.agg #[.int .i64 (n : Int), .slice A0_1 l0_1.length c0_1], .func (.func 17) #[] #[]] rfl (by (try simp only [List.map_toArray, List.map_cons, List.map_nil]); first | done | rfl) ?_; (with_reducible refine (impl_follow.calls k (n : Int) A0_1 c0_1 l0_1 0 at_ _ ?side1 ?side2 A3.out).mono ?_); (case side1 => repeat (first | exact (Kd.C_below HR0.out HB.out) | (with_reducible refine Kd.C_alloc ?_ _) | (with_reducible refine Kd.C_drewN ?_ _) | (with_reducible refine Kd.C_drew ?_))); (case side2 => exact HC0.out); rintro e w4 ⟨v20, rfl, ho_, hb⟩; refine ⟨_, rfl, ?_⟩; obtain ⟨gA, cA, eA, hga_, _, _⟩ := Kd.R_form ho_ (by have h1_ := HO.out.1; omega); rw [show at_.length = n by have h1_ := HO.out.1; omega] at eA; subst eA; have HGA : Aside0 (gG < gA) := ⟨Nat.lt_of_lt_of_le hgl_ hga_⟩; have SA := Aside0.mk (Kd.R_lower (Kd.R_mono (ok' := fun k_ => gG < k_) (Kd.R_bound ho_) (fun k_ hk_ => Nat.lt_of_lt_of_le hgl_ hk_.2.1)) (below_size (by repeat (first | (with_reducible first | exact HB.out | apply below_alloc | apply pw_below_drewN | apply below_drew1) | exact HB.out)))); have n_ := Aside0.mk (Kd.R_below SG.out hb); clear SG; have SG := n_; clear n_; have n_ := Aside0.mk (blk_below (by (with_reducible repeat (first | refine blk_drewN ?_ _ | refine blk_drew ?_ | refine blk_alloc ?_ _)); exact BKb.out) hb); clear BKb; have BKb := n_; clear n_; have n_ := Aside0.mk (below_step (by repeat (first | (with_reducible first | exact HB.out | apply below_alloc | apply pw_below_drewN | apply below_drew1) | exact HB.out)) hb); clear HB; have HB := n_; clear n_; (try clear hzgb_0 hfgb_0 hzgb_1 hfgb_1); have hzgb_0 := (blk_cell BKb.out 0).trans rfl; have hfgb_0 := blk_frozen BKb.out 0; have hzgb_1 := (blk_cell BKb.out 1).trans rfl; have hfgb_1 := blk_frozen BKb.out 1; clear hb ho_ hga_ hgl_))
    have HGW : Aside0 (w.heap.size ≤ gG) := ⟨by have h1_ := HGG.out; have h2_ := GE_gb.out; omega⟩
    go_loopg [6] (n + 1) (fun kq v6 wr => ∃ (x : Int) (q : Nat) (G : List Int), v6 = .int .i64 x ∧ Aside0 (q < kq) ∧ Aside0 (2 * (q : Int) + x = (n : Int) ∧ 0 ≤ x) ∧ Aside0 (G.length = n) ∧ Aside0 (plt.ml at_ q x G = plt.ml at_ (n / 2) 0 g) ∧ Aside0 (Kd.R (Kd.int .i64) 2 wr w.heap.size (fun _ => True) (.slice (some ⟨gG, 0, none⟩) n cG) G) ∧ Aside0 (Kd.R (Kd.int .i64) 2 wr w.heap.size (fun k_ => gG < k_) (.slice (some ⟨gA, 0, none⟩) n cA) at_) ∧ Aside0 (wr.heap[gb]? = some (.cells #[.int .i64 (n : Int), .slice A0_1 l0_1.length c0_1] 28 (0, 0))) ∧ Aside0 (Below w.heap.size w wr))
    case atStart => exact ⟨0, n / 2, g, (by first | rfl | (simp; done) | (simp [*]; done)), ⟨by omega⟩, ⟨by have h1_ := HO.out.1; omega⟩, ⟨by have h1_ := HO.out.1; omega⟩, ⟨rfl⟩, SG, SA, BKb, HB⟩
    case round =>
      clear SG SA BKb HB hzgb_0 hzgb_1 hfgb_0 hfgb_1
      obtain ⟨x, q, G, rfl, HQ, HX, HL, HML, SG, SA, BKb, HB⟩ := hrel
      (try clear hzgb_0 hfgb_0 hzgb_1 hfgb_1)
      have hzgb_0 := (blk_cell BKb.out 0).trans rfl
      have hfgb_0 := blk_frozen BKb.out 0
      have hzgb_1 := (blk_cell BKb.out 1).trans rfl
      have hfgb_1 := blk_frozen BKb.out 1
      cases gk with
      | zero => exact absurd HQ.out (Nat.not_lt_zero _)
      | succ k1_ =>
      cases q with
      | zero =>
        have cib : decide (x < (n : Int)) = false := decide_eq_false (by have := HX.out; omega)
        have HGF : Aside0 (G = plt.ml at_ (n / 2) 0 g) := ⟨HML.out⟩
        have HA4 := Aside0.mk A4.out
        have HA4b : Aside0 (impl_groups_int64_19.f k G = some S) := ⟨by rw [HGF.out]; exact A4.out⟩
        have hs2_ := HS.out
        subst hs2_
        go_wp2_with (first | ((with_reducible refine gate_callee (f := 19) rfl ?_); refine goesL_ (some 44) rfl rfl Try.func19 (by kernel_rfl) rfl #[.slice (some ⟨gG, 0, none⟩) S.length cG] rfl (by (try simp only [List.map_toArray, List.map_cons, List.map_nil]); first | done | rfl) ?_; (refine (impl_groups_int64_19.calls k (fun _ => True) (.slice (some ⟨gG, 0, none⟩) S.length cG) G S w _ ?sideB ?sideG HA4b.out).mono ?_); (case sideB => exact (by repeat (first | (with_reducible first | exact HB.out | apply below_alloc | apply pw_below_drewN | apply below_drew1) | exact HB.out))); (case sideG => exact (by (with_reducible repeat (first | apply Kd.R_alloc | apply Kd.R_drewN | apply Kd.R_drew)); exact SG.out)); rintro e wS ⟨rfl, hs_, hb_, _⟩; refine ⟨_, rfl, ?_⟩; clear HB SG hzgb_0 hzgb_1 hfgb_0 hfgb_1; have HB := Aside0.mk hb_; have HCAP := Aside0.mk (Kd.R_reads' hs_).2.1; have HHO := Aside0.mk (plholds_of hs_ rfl); clear hs_ hb_) | ((with_reducible refine gate_callee (f := 20) rfl ?_); refine goesL_ (some 46) rfl rfl Try.func20 (by kernel_rfl) rfl #[.slice (some ⟨gG, 0, none⟩) S.length cG] rfl (by (try simp only [List.map_toArray, List.map_cons, List.map_nil]); first | done | rfl) ?_; (refine (cp_calls gG cG S.toArray _ HHO.out ?s1 ?s2 ?s3).mono ?_); (case s1 => rw [List.size_toArray]; have h1_ := HO.out.1; omega); (case s2 => rw [List.size_toArray]; have h1_ := HO.out.1; omega); (case s3 => rw [List.size_toArray]; exact HCAP.out); rintro e wC ⟨rfl, hgr_⟩; refine ⟨_, rfl, ?_⟩; have n_ := Aside0.mk (pw_below_grown HB.out (some gG) (below_size HB.out) hgr_ (fun k_ e_ => by cases e_; exact HGW.out)); clear HB; have HB := n_; clear n_; clear hgr_))
        go_ret2
        exact ⟨rfl, (by repeat (first | (with_reducible first | exact HB.out | apply below_alloc | apply pw_below_drewN | apply below_drew1) | exact HB.out))⟩
      | succ q =>
        have hx0 : 0 ≤ x := HX.out.2
        have hx1 : x + 1 < (n : Int) := by have h1_ := HX.out; omega
        have cib : decide (x < (n : Int)) = true := decide_eq_true (by omega)
        have HX0 := Aside0.mk (And.intro hx0 hx1)
        obtain ⟨x1, hx1_⟩ : ∃ z, wrap64 (x + 1) = z := ⟨_, rfl⟩
        have HX1 : Aside0 (x1 = x + 1) := ⟨by rw [← hx1_]; have h1_ := HO.out.1; unfold wrap64; omega⟩
        have hx1w : IntKind.i64.wrap (x + 1) = x1 := (i64_w _).trans hx1_
        obtain ⟨a, ha⟩ : ∃ z, rd at_ x = z := ⟨_, rfl⟩
        obtain ⟨c, hc⟩ : ∃ z, rd at_ x1 = z := ⟨_, rfl⟩
        have HAC := Aside0.mk (And.intro ha hc)
        have HAR : Aside0 (0 ≤ a ∧ a < (n : Int)) := ⟨by rw [← ha]; exact HO.out.2 x ⟨hx0, by omega⟩⟩
        have HCR : Aside0 (0 ≤ c ∧ c < (n : Int)) := ⟨by rw [← hc]; exact HO.out.2 x1 ⟨by rw [HX1.out]; omega, by rw [HX1.out]; omega⟩⟩
        have HML2 : Aside0 (plt.ml at_ q (x + 2) (plt.mg (plt.mg G x x1) a c) = plt.ml at_ (n / 2) 0 g) := ⟨by have h_ := HML.out; rw [plt.ml, ← HX1.out, ha, hc] at h_; exact h_⟩
        clear HML
        clear ha hc hx0 hx1
        go_wp2_with (first | ((with_reducible refine gate_callee (f := 18) rfl ?_); refine goesL_ (some 31) rfl rfl Try.func18 (by kernel_rfl) rfl #[.slice (some ⟨gG, 0, none⟩) n cG, .int .i64 x, .int .i64 x1] rfl (by (try simp only [List.map_toArray, List.map_cons, List.map_nil]); first | done | rfl | (rw [← hx1_]; rfl)) ?_; (refine (mg_calls n gG cG (by have h1_ := HO.out.1; omega) G x x1 HL.out ⟨HX0.out.1, by have h1_ := HX0.out; omega⟩ ⟨by have h1_ := HX0.out; have h2_ := HX1.out; omega, by have h1_ := HX0.out; have h2_ := HX1.out; omega⟩ w.heap.size (fun _ => True) _ SG.out).mono ?_); rintro e w5 ⟨rfl, hm_, hgr_⟩; refine ⟨_, rfl, ?_⟩; clear SG; have SG := Aside0.mk hm_; have n_ := Aside0.mk (Kd.R_grown SA.out hgr_ (fun k_ hk3_ => by have hk4_ : gG < k_ := hk3_; intro e_; injection e_ with e_; omega)); clear SA; have SA := n_; clear n_; have n_ := Aside0.mk (blk_grown BKb.out hgr_ (by intro e_; injection e_ with e_; have h1_ := HGG.out; omega)); clear BKb; have BKb := n_; clear n_; have n_ := Aside0.mk (pw_below_grown HB.out (some gG) (below_size HB.out) hgr_ (fun k_ e_ => by cases e_; exact HGW.out)); clear HB; have HB := n_; clear n_; clear hm_ hgr_; (try clear hzgb_0 hfgb_0 hzgb_1 hfgb_1); have hzgb_0 := (blk_cell BKb.out 0).trans rfl; have hfgb_0 := blk_frozen BKb.out 0; have hzgb_1 := (blk_cell BKb.out 1).trans rfl; have hfgb_1 := blk_frozen BKb.out 1))
        have HL2 : Aside0 ((plt.mg G x x1).length = n) := ⟨by rw [plt.mg_length]; exact HL.out⟩
        have hza := (Kd.R_celln 0 SA.out x HX0.out.1 (by have h1_ := HX0.out; omega)).1
        have hzc := (Kd.R_celln 0 SA.out x1 (by have h1_ := HX0.out; have h2_ := HX1.out; omega) (by have h1_ := HX0.out; have h2_ := HX1.out; omega)).1
        have hza2 : w5.cell? ⟨gA, x.toNat, none⟩ = some (.int .i64 a) := by rw [← HAC.out.1]; exact hza
        have hzc2 : w5.cell? ⟨gA, x1.toNat, none⟩ = some (.int .i64 c) := by rw [← HAC.out.2]; exact hzc
        clear hza hzc
        have pa0 : (0 ≤ x) = True := eq_true HX0.out.1
        have pa1 : (x < (n : Int)) = True := eq_true (by have h1_ := HX0.out; omega)
        have pc0 : (0 ≤ x1) = True := eq_true (by have h1_ := HX0.out; have h2_ := HX1.out; omega)
        have pc1 : (x1 < (n : Int)) = True := eq_true (by have h1_ := HX0.out; have h2_ := HX1.out; omega)
        have n_ := Aside0.mk (Kd.R_drew SG.out); clear SG; have SG := n_; clear n_
        have n_ := Aside0.mk (Kd.R_drew SA.out); clear SA; have SA := n_; clear n_
        have n_ := Aside0.mk (blk_drew BKb.out); clear BKb; have BKb := n_; clear n_
        have n_ := Aside0.mk (below_drew1 HB.out); clear HB; have HB := n_; clear n_
        have hza2 := plcell hza2
        have hzc2 := plcell hzc2
        refine start_ (n := 11) (S := fun w' => w'.cell? ⟨gA, x.toNat, none⟩ = some (.int .i64 a) ∧ w'.cell? ⟨gA, x1.toNat, none⟩ = some (.int .i64 c)) (ds := []) #[false, false, false, false, false, false, false, false, false, false, false] (by kernel_rfl) rfl rfl ⟨hza2, hzc2⟩ (fun hHeld => ?_)
        refine with_tabW plm.tab11 plm.bits11 (fun HT_ HW_ => ?_)
        generalize w5.drew = w6 at SG SA BKb HB hza2 hzc2 hHeld ⊢
        refine pure_ (i := 0) (N := some 32) (v := ?_) (a' := ?_) #[true, false, false, false, false, false, false, false, false, false, false] rfl rfl (any_of HT_.out (by kernel_rfl)) (fun _ _ _ h => h) (Or.inl ⟨by rfl, ?_⟩) ?_ ?_
        rotate_left
        · intro w'
          go_simp
          with_reducible rfl
        rotate_left
        · simp only [Act.put, List.setIfInBounds_toArray, List.set_cons_zero, List.set_cons_succ, i64_w, i32_w]
          rfl
        refine pure_ (i := 1) (N := some 33) (v := ?_) (a' := ?_) #[true, true, false, false, false, false, false, false, false, false, false] rfl rfl (any_of HT_.out (by kernel_rfl)) (fun _ _ _ h => h) (Or.inl ⟨by rfl, ?_⟩) ?_ ?_
        rotate_left
        · intro w'
          go_simp
          with_reducible rfl
        rotate_left
        · simp only [Act.put, List.setIfInBounds_toArray, List.set_cons_zero, List.set_cons_succ, i64_w, i32_w]
          rfl
        refine pure_ (i := 2) (N := some 34) (v := ?_) (a' := ?_) #[true, true, true, false, false, false, false, false, false, false, false] rfl rfl (any_of HT_.out (by kernel_rfl)) (fun _ _ _ h => h) (Or.inl ⟨by rfl, ?_⟩) ?_ ?_
        rotate_left
        · intro w'
          go_simp
          with_reducible rfl
        rotate_left
        · simp only [Act.put, List.setIfInBounds_toArray, List.set_cons_zero, List.set_cons_succ, i64_w, i32_w]
          rfl
        refine pure_ (i := 3) (N := some 35) (v := ?_) (a' := ?_) #[true, true, true, true, false, false, false, false, false, false, false] rfl rfl (any_of HT_.out (by kernel_rfl)) (fun _ _ _ h => h) (Or.inl ⟨by rfl, ?_⟩) ?_ ?_
        rotate_left
        · intro w'
          go_simp
          with_reducible rfl
        rotate_left
        · simp only [Act.put, List.setIfInBounds_toArray, List.set_cons_zero, List.set_cons_succ, i64_w, i32_w]
          rfl
        refine pure_ (i := 5) (N := some 37) (v := ?_) (a' := ?_) #[true, true, true, true, false, true, false, false, false, false, false] rfl rfl (any_of HT_.out (by kernel_rfl)) (fun _ _ _ h => h) (Or.inl ⟨by rfl, ?_⟩) ?_ ?_
        rotate_left
        · intro w'
          go_simp
          with_reducible rfl
        rotate_left
        · simp only [Act.put, List.setIfInBounds_toArray, List.set_cons_zero, List.set_cons_succ, i64_w, i32_w]
          rfl
        refine pure_ (i := 6) (N := some 38) (v := ?_) (a' := ?_) #[true, true, true, true, false, true, true, false, false, false, false] rfl rfl (any_of HT_.out (by kernel_rfl)) (fun _ _ _ h => h) (Or.inl ⟨by rfl, ?_⟩) ?_ ?_
        rotate_left
        · intro w'
          go_simp
          with_reducible rfl
        rotate_left
        · simp only [Act.put, List.setIfInBounds_toArray, List.set_cons_zero, List.set_cons_succ, i64_w, i32_w]
          rfl
        refine pure_ (i := 7) (N := some 39) (v := ?_) (a' := ?_) #[true, true, true, true, false, true, true, true, false, false, false] rfl rfl (any_of HT_.out (by kernel_rfl)) (fun _ _ _ h => h) (Or.inl ⟨by rfl, ?_⟩) ?_ ?_
        rotate_left
        · intro w'
          go_simp
          with_reducible rfl
        rotate_left
        · simp only [Act.put, List.setIfInBounds_toArray, List.set_cons_zero, List.set_cons_succ, i64_w, i32_w]
          rfl
        refine pure_ (i := 8) (N := some 40) (v := ?_) (a' := ?_) #[true, true, true, true, false, true, true, true, true, false, false] rfl rfl (any_of HT_.out (by kernel_rfl)) (fun _ _ _ h => h) (Or.inl ⟨by rfl, ?_⟩) ?_ ?_
        rotate_left
        · intro w'
          go_simp
          with_reducible rfl
        rotate_left
        · simp only [Act.put, List.setIfInBounds_toArray, List.set_cons_zero, List.set_cons_succ, i64_w, i32_w]
          rfl
        refine take_ (i := 4) (N := some 36) (v := ?_) (a' := ?_) #[true, true, true, true, true, true, true, true, true, false, false] rfl rfl (take_ofW HT_.out HW_.out (by kernel_rfl)) (fun _ _ _ h => h) (Or.inl ⟨by rfl, ?_⟩) hHeld ?_ ?_
        rotate_left
        · rintro w' ⟨s0, s1⟩
          go_simp
          with_reducible rfl
        rotate_left
        · simp only [Act.put, List.setIfInBounds_toArray, List.set_cons_zero, List.set_cons_succ, i64_w, i32_w]
          rfl
        refine take_ (i := 9) (N := some 41) (v := ?_) (a' := ?_) #[true, true, true, true, true, true, true, true, true, true, false] rfl rfl (take_ofW HT_.out HW_.out (by kernel_rfl)) (fun _ _ _ h => h) (Or.inl ⟨by rfl, ?_⟩) hHeld ?_ ?_
        rotate_left
        · rintro w' ⟨s0, s1⟩
          go_simp
          with_reducible rfl
        rotate_left
        · simp only [Act.put, List.setIfInBounds_toArray, List.set_cons_zero, List.set_cons_succ, i64_w, i32_w]
          rfl
        refine one_ (i := 10) (N := some 42) #[true, true, true, true, true, true, true, true, true, true, true] rfl rfl (one_of HT_.out (by kernel_rfl)) (by decide) (fun K hK => ?_)
        refine goes_ Try.func18 (by kernel_rfl) rfl #[.slice (some ⟨gG, 0, none⟩) n cG, .int .i64 a, .int .i64 c] (by rfl) rfl rfl (by (try simp only [List.map_toArray, List.map_cons, List.map_nil]); first | done | rfl) ?_
        refine (mg_calls n gG cG (by have h1_ := HO.out.1; omega) (plt.mg G x x1) a c HL2.out HAR.out HCR.out w.heap.size (fun _ => True) _ SG.out).mono ?_
        rintro e_ wf ⟨rfl, hm_, hgr_⟩
        refine ⟨_, rfl, ?_⟩
        have k1_2 : wf.cell? ⟨gA, x.toNat, none⟩ = some (.int .i64 a) := plcell_grown hgr_ hza2 (World.block_lt_of_cell? _ _ hza2) (fun e_ => by have h1_ := HGA.out; have h2_ : gA = gG := e_; omega)
        have k2_2 : wf.cell? ⟨gA, x1.toNat, none⟩ = some (.int .i64 c) := plcell_grown hgr_ hzc2 (World.block_lt_of_cell? _ _ hzc2) (fun e_ => by have h1_ := HGA.out; have h2_ : gA = gG := e_; omega)
        clear SG hza2 hzc2 hHeld
        have SG := Aside0.mk hm_
        have n_ := Aside0.mk (Kd.R_grown SA.out hgr_ (fun k_ hk3_ => by have hk4_ : gG < k_ := hk3_; intro e_; injection e_ with e_; omega)); clear SA; have SA := n_; clear n_
        have n_ := Aside0.mk (blk_grown BKb.out hgr_ (by intro e_; injection e_ with e_; have h1_ := HGG.out; omega)); clear BKb; have BKb := n_; clear n_
        have n_ := Aside0.mk (pw_below_grown HB.out (some gG) (below_size HB.out) hgr_ (fun k_ e_ => by cases e_; exact HGW.out)); clear HB; have HB := n_; clear n_
        clear hm_ hgr_
        refine hK.out _ _ ⟨k1_2, k2_2⟩ (fun hHeld => ?_)
        clear hK K
        refine norm_ (a' := ?_) ?_ ?_
        rotate_left
        · show Act.put _ (some 42) _ = _
          simp only [Act.put, List.setIfInBounds_toArray, List.set_cons_zero, List.set_cons_succ, i64_w, i32_w]
          rfl
        refine done_ (done_of HT_.out (by kernel_rfl)) ?_
        (try clear hHeld HT_ HW_ k1_2 k2_2 hzgb_0 hzgb_1 hfgb_0 hfgb_1)
        go_wp2
        go_roundg k1_
        case measure => omega
        case rel =>
          have HW := Aside0.mk (show wrap64 (x + 2) = x + 2 by have h1_ := HX0.out; have h2_ := HO.out.1; unfold wrap64; omega)
          exact ⟨wrap64 (x + 2), q, plt.mg (plt.mg G x x1) a c, (by first | rfl | (simp; done) | (simp [*]; done)), ⟨by have h1_ := HQ.out; omega⟩, ⟨by have h1_ := HX.out; rw [HW.out]; omega⟩, ⟨by rw [plt.mg_length]; exact HL2.out⟩, ⟨by rw [HW.out]; exact HML2.out⟩, SG, SA, BKb, HB⟩


end Go.Proofs.Ytmmoimofjomnlaa.MFnExactPlatComponents
