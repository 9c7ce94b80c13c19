-- Walks of the functions that a law reaches, one after the other: plain functions, and that the machine's calls come to what they tell (wip/tools/myprint.py of this repo).
import Derived.Test.YtcbomfkimohlfaaMFnExactCountColouringsx0
import Derived.Test.YtcbomfkimohlfaaMFnExactCountColouringsx2
import Derived.Test.YtcbomfkimohlfaaMFnExactCountColouringsx3
import Derived.Test.YtcbomfkimohlfaaMFnExactCountColouringsx4
import Derived.Test.YtcbomfkimohlfaaLibArr
import Derived.Test.YtcbomfkimohlfaaLibMx
import Derived.Test.YtcbomfkimohlfaaLibRk
namespace Go.Proofs.Ytcbomfkimohlfaa.MFnExactCountColourings
open Go.RowKit Go.Proofs.YtcbomfkimohlfaaW.PrintWords Go.Proofs.YtcbomfkimohlfaaW.PrintLast Go.Proofs.YtcbomfkimohlfaaW.PrintMore
open Go.Proofs.Ytcbomfkimohlfaa.LibRk
open Go.Proofs.Ytcbomfkimohlfaa.LibMx
open Go.Proofs.Ytcbomfkimohlfaa.LibArr
attribute [local go_sem] max2_int min2_int max_two min_two max_three min_three max_four min_four   -- for this text's walks alone
set_option linter.unusedVariables false
set_option linter.unusedSimpArgs false

/-! ### impl_rankModulo: function 59 -/
def impl_rankModulo.f (k : Nat) (l0 : List (List Int)) (a1 : Int) : Option Int := if iv.Sq l0.length l0 ∧ (1 ≤ l0.length ∧ l0.length ≤ 8) ∧ (3 ≤ a1 ∧ a1 ≤ 97) then rk.goI a1 (fun x => impl_inverseModulo.f k x a1) l0.length l0.length 0 0 l0 else none
theorem impl_rankModulo.mono : ∀ a0 a1 k, LeO (impl_rankModulo.f k a0 a1) (impl_rankModulo.f (k + 1) a0 a1) := by
  intro a0 a1 k
  unfold impl_rankModulo.f
  exact LeO.ite (rk.goI_mono _ _ _ _ (fun x => impl_inverseModulo.mono _ _ _) _ _ _ _) (LeO.refl _)
def impl_rankModulo.T9 : Bool × List (List Nat × List Nat) := (true, [([], []), ([], []), ([], []), ([], []), ([], []), ([], []), ([4, 5], [4, 5]), ([6], [6]), ([], []), ([], []), ([8, 9], [8, 9]), ([10], [10]), ([0, 1, 0, 1, 4, 5, 6, 7, 11], [0, 1]), ([12, 7, 0, 1, 4, 5, 6, 7, 11], [7, 12]), ([2, 3, 0, 1, 2, 3, 4, 5, 6, 7, 8, 9, 10, 11, 12, 13], [2, 3]), ([14, 11, 13, 0, 1, 2, 3, 4, 5, 6, 7, 8, 9, 10, 11, 12, 13], [11, 14])])
def impl_rankModulo.B9 : List Nat := [0, 0, 0, 0, 0, 0, 48, 112, 0, 0, 768, 1792, 4083, 8179, 16383, 32767]
theorem impl_rankModulo.tab9 : rtab .any (opsOf Try.f59 9) = impl_rankModulo.T9 := by kernel_rfl
theorem impl_rankModulo.bits9 : waitsOk impl_rankModulo.T9.2 impl_rankModulo.B9 = true := by kernel_rfl
def impl_rankModulo.T18 : Bool × List (List Nat × List Nat) := (true, [([], []), ([], []), ([0, 1], [0, 1]), ([2], [2]), ([], []), ([], []), ([], []), ([5, 6], [5, 6]), ([7], [7]), ([], []), ([8, 9], [8, 9]), ([10], [10]), ([], []), ([], []), ([12, 13], [12, 13]), ([], []), ([], []), ([15, 16], [15, 16]), ([17], [17]), ([], []), ([18, 19], [18, 19]), ([20], [20]), ([14, 21], [14, 21]), ([11, 22], [11, 22]), ([], []), ([23, 24], [23, 24]), ([3, 4, 0, 1, 2, 3, 4, 5, 6, 7, 8, 9, 10, 11, 12, 13, 14, 15, 16, 17, 18, 19, 20, 21, 22, 23, 24, 25], [3, 4]), ([26, 25, 0, 1, 2, 3, 4, 5, 6, 7, 8, 9, 10, 11, 12, 13, 14, 15, 16, 17, 18, 19, 20, 21, 22, 23, 24, 25], [25, 26])])
def impl_rankModulo.B18 : List Nat := [0, 0, 3, 7, 0, 0, 0, 96, 224, 0, 992, 2016, 0, 0, 12288, 0, 0, 98304, 229376, 0, 1015808, 2064384, 4190208, 8388576, 0, 33554400, 67108863, 134217727]
theorem impl_rankModulo.tab18 : rtab .any (opsOf Try.f59 18) = impl_rankModulo.T18 := by kernel_rfl
theorem impl_rankModulo.bits18 : waitsOk impl_rankModulo.T18.2 impl_rankModulo.B18 = true := by kernel_rfl
set_option maxHeartbeats 8000000 in
set_option maxRecDepth 100000 in
theorem impl_rankModulo.calls (k : Nat) (gL cL : Nat) (l0 : List (List Int)) (a1 r : Int) (w0 w : World) (hs : Mx 2 22 w w0.heap.size (fun _ => True) (.slice (some ⟨gL, 0, none⟩) l0.length cL) l0) (hB : Below w0.heap.size w0 w) (h : impl_rankModulo.f k l0 a1 = some r) :
    Calls Try.prog 59 #[(.slice (some ⟨gL, 0, none⟩) l0.length cL), .int .i64 a1] w fun e w' => e = .returned (.int .i64 r) ∧ Below w0.heap.size w0 w' := by
  have SL := Aside0.mk hs
  have HB := Aside0.mk hB
  clear hs hB
  have H0 := h
  clear h
  unfold impl_rankModulo.f at H0
  by_cases hg : iv.Sq l0.length l0 ∧ (1 ≤ l0.length ∧ l0.length ≤ 8) ∧ (3 ≤ a1 ∧ a1 ≤ 97)
  case neg => rw [if_neg hg] at H0; cases H0
  rw [if_pos hg] at H0
  have HSL := Aside0.mk hg.1
  have HM := Aside0.mk hg.2.1
  have HP := Aside0.mk hg.2.2
  have H' := Aside0.mk H0
  clear H0 hg
  have HGL := Aside0.mk (Kd.R_base (Kd.S_R SL.out) gL rfl)
  have hp0 : (a1 = 0) = False := eq_false (by have := HP.out; omega)
  have hp1 : (a1 == 0) = false := beq_eq_false_iff_ne.mpr (by have := HP.out; omega)
  go_enter Try.func59, Try.ntmps59
  go_wp2
  go_loopg [5, 14] 30 (fun kq v5 v14 wk => ∃ (L : List (List Int)) (rank c : Int) (n : Nat), v5 = .int .i64 rank ∧ v14 = .int .i64 c ∧ Aside0 (n < kq) ∧ Aside0 ((n : Int) + c = (l0.length : Int)) ∧ Aside0 (0 ≤ rank ∧ rank ≤ c) ∧ Aside0 (rk.goI a1 (fun x => impl_inverseModulo.f k x a1) l0.length n c rank L = some r) ∧ Aside0 (iv.Sq l0.length L) ∧ Aside0 (Mx 2 22 wk w0.heap.size (fun _ => True) (.slice (some ⟨gL, 0, none⟩) l0.length cL) L) ∧ Aside0 (Below w0.heap.size w0 wk))
  case atStart => exact ⟨l0, 0, 0, l0.length, (by first | rfl | (simp; done) | (simp [*]; done)), (by first | rfl | (simp; done) | (simp [*]; done)), ⟨by have := HM.out; omega⟩, ⟨by omega⟩, ⟨by omega⟩, H', HSL, ⟨(by (with_reducible repeat (first | apply Kd.S_alloc | apply Kd.S_drewN | apply Kd.S_drew)); exact SL.out)⟩, ⟨(by repeat (first | (with_reducible first | exact HB.out | apply below_alloc | apply pw_below_drewN | apply below_drew1) | exact HB.out))⟩⟩
  case round =>
    clear SL HB H' HSL
    obtain ⟨L, rank, c, n, rfl, rfl, HQ, HC, HRK, HA, HSL, SL, HB⟩ := hrel
    cases gk with
    | zero => exact absurd HQ.out (Nat.not_lt_zero _)
    | succ k1 =>
    cases n with
    | zero =>
      have H := HA.out
      clear HA
      simp only [rk.goI, Option.some.injEq] at H
      subst H
      have c1b : decide (c < (l0.length : Int)) = false := decide_eq_false (by have := HC.out; omega)
      go_wp2
      go_ret
      exact ⟨rfl, (by repeat (first | (with_reducible first | exact HB.out | apply below_alloc | apply pw_below_drewN | apply below_drew1) | exact HB.out))⟩
    | succ n =>
      have hc0 : 0 ≤ c := by have := HRK.out; omega
      have hc1 : c < (l0.length : Int) := by have := HC.out; omega
      have c1b : decide (c < (l0.length : Int)) = true := decide_eq_true hc1
      have ppc : (0 ≤ c) = True := eq_true (hc0)
      have qqc : (c < (l0.length : Int)) = True := eq_true (hc1)
      have HC0 := Aside0.mk hc0
      have HC1 := Aside0.mk hc1
      clear hc0 hc1
      have HA := HA.out
      unfold rk.goI at HA
      obtain ⟨pv, hpv⟩ : ∃ pv, iv.piv c (l0.length - rank.toNat) rank L = pv := ⟨_, rfl⟩
      have hrg := iv.piv_range c L (l0.length - rank.toNat) rank
      rw [hpv] at hrg
      have HPV := Aside0.mk (show rank ≤ pv ∧ pv ≤ (l0.length : Int) by have := HRK.out; have := HC1.out; omega)
      rw [hpv] at HA
      have HPE := Aside0.mk hpv
      have H' := Aside0.mk HA
      clear HA hrg hpv
      go_upto_block 2 with (fail)
      go_cut [7] (fun vp wc => vp = .int .i64 pv ∧ Aside0 (Mx 2 22 wc w0.heap.size (fun _ => True) (.slice (some ⟨gL, 0, none⟩) l0.length cL) L) ∧ Aside0 (Below w0.heap.size w0 wc))
      case first =>
        go_wp2
        go_loopg [7] 30 (fun kq vp wr => ∃ (t : Int) (q : Nat), vp = .int .i64 t ∧ Aside0 (q < kq) ∧ Aside0 ((q : Int) + t = (l0.length : Int) ∧ rank ≤ t) ∧ Aside0 (iv.piv c q t L = pv) ∧ Aside0 (Mx 2 22 wr w0.heap.size (fun _ => True) (.slice (some ⟨gL, 0, none⟩) l0.length cL) L) ∧ Aside0 (Below w0.heap.size w0 wr))
        case atStart => exact ⟨rank, l0.length - rank.toNat, (by first | rfl | (simp; done) | (simp [*]; done)), ⟨by have := HM.out; omega⟩, ⟨by have := HRK.out; have := HC1.out; omega⟩, HPE, ⟨(by (with_reducible repeat (first | apply Kd.S_alloc | apply Kd.S_drewN | apply Kd.S_drew)); exact SL.out)⟩, ⟨(by repeat (first | (with_reducible first | exact HB.out | apply below_alloc | apply pw_below_drewN | apply below_drew1) | exact HB.out))⟩⟩
        case round =>
          clear SL HB
          (try clear hzZ hz0)
          obtain ⟨t, q, rfl, HQ2, HT, HA, SL, HB⟩ := hrel
          cases gk with
          | zero => exact absurd HQ2.out (Nat.not_lt_zero _)
          | succ k2 =>
          cases q with
          | zero =>
            have c2b : decide (t < (l0.length : Int)) = false := decide_eq_false (by have := HT.out; omega)
            have HA := HA.out
            simp only [iv.piv] at HA
            subst HA
            go_wp2
            go_meet
            case rel => exact ⟨(by first | rfl | (simp; done) | (simp [*]; done)), ⟨(by (with_reducible repeat (first | apply Kd.S_alloc | apply Kd.S_drewN | apply Kd.S_drew)); exact SL.out)⟩, ⟨(by repeat (first | (with_reducible first | exact HB.out | apply below_alloc | apply pw_below_drewN | apply below_drew1) | exact HB.out))⟩⟩
          | succ q =>
            have ht0 : 0 ≤ t := by have := HT.out; have := HRK.out; omega
            have ht1 : t < (l0.length : Int) := by have := HT.out; omega
            have c2b : decide (t < (l0.length : Int)) = true := decide_eq_true ht1
            have ppt : (0 ≤ t) = True := eq_true (ht0)
            have qqt : (t < (l0.length : Int)) = True := eq_true (ht1)
            obtain ⟨grA, crA, hzA, hfA_, hbA_, hkA_, hnA_, hcA_, _⟩ := mx_atm (m := l0.length) SL.out t ht0 ht1 (HSL.out.at _ ht0 ht1) (by have := HM.out; omega)
            obtain ⟨hvA0, hfA0⟩ := hcA_ c HC0.out HC1.out
            clear hfA_ hbA_ hkA_ hnA_ hcA_
            have HA := HA.out
            unfold iv.piv at HA
            have HT0 := Aside0.mk ht0
            have HT1 := Aside0.mk ht1
            clear ht0 ht1
            by_cases e3 : iv.gt L t c = 0
            · have HA := Aside0.mk ((if_pos e3).symm.trans HA)
              have c3b0 : (iv.gt L t c == 0) = true := beq_iff_eq.mpr e3
              have c3b1 : (iv.gt L t c != 0) = false := bne_eq_false_iff_eq.mpr e3
              clear e3
              go_wp2
              go_roundg k2
              case measure => omega
              case rel =>
                have HW := Aside0.mk (show wrap64 (t + 1) = t + 1 by have := HT0.out; have := HT1.out; have := HM.out; unfold wrap64; omega)
                exact ⟨wrap64 (t + 1), q, (by first | rfl | (simp; done) | (simp [*]; done)), ⟨by have := HQ2.out; omega⟩, ⟨by have := HT.out; rw [HW.out]; omega⟩, ⟨by rw [HW.out]; exact HA.out⟩, ⟨(by (with_reducible repeat (first | apply Kd.S_alloc | apply Kd.S_drewN | apply Kd.S_drew)); exact SL.out)⟩, ⟨(by repeat (first | (with_reducible first | exact HB.out | apply below_alloc | apply pw_below_drewN | apply below_drew1) | exact HB.out))⟩⟩
            · have HA := (if_neg e3).symm.trans HA
              have c3b0 : (iv.gt L t c == 0) = false := beq_eq_false_iff_ne.mpr e3
              have c3b1 : (iv.gt L t c != 0) = true := bne_iff_ne.mpr e3
              clear e3
              subst HA
              go_wp2
              go_meet
              case rel => exact ⟨(by first | rfl | (simp; done) | (simp [*]; done)), ⟨(by (with_reducible repeat (first | apply Kd.S_alloc | apply Kd.S_drewN | apply Kd.S_drew)); exact SL.out)⟩, ⟨(by repeat (first | (with_reducible first | exact HB.out | apply below_alloc | apply pw_below_drewN | apply below_drew1) | exact HB.out))⟩⟩
      case rest =>
        clear SL HB
        obtain ⟨rfl, SL, HB⟩ := hcut
        have H := H'.out
        clear H'
        have HWC := Aside0.mk (show wrap64 (c + 1) = c + 1 by have := HC0.out; have := HC1.out; have := HM.out; unfold wrap64; omega)
        by_cases e1 : pv = (l0.length : Int)
        · rw [if_pos e1] at H
          have c4b0 : (pv == (l0.length : Int)) = true := beq_iff_eq.mpr e1
          have c4b1 : (pv != (l0.length : Int)) = false := bne_eq_false_iff_eq.mpr e1
          clear e1
          go_wp2
          go_roundg k1
          case measure => omega
          case rel =>
            exact ⟨L, rank, wrap64 (c + 1), n, (by first | rfl | (simp; done) | (simp [*]; done)), (by first | rfl | (simp; done) | (simp [*]; done)), ⟨by have := HQ.out; omega⟩, ⟨by have := HC.out; rw [HWC.out]; omega⟩, ⟨by have := HRK.out; rw [HWC.out]; omega⟩, ⟨by rw [HWC.out]; exact H⟩, HSL, ⟨(by (with_reducible repeat (first | apply Kd.S_alloc | apply Kd.S_drewN | apply Kd.S_drew)); exact SL.out)⟩, ⟨(by repeat (first | (with_reducible first | exact HB.out | apply below_alloc | apply pw_below_drewN | apply below_drew1) | exact HB.out))⟩⟩
        · rw [if_neg e1] at H
          have c4b0 : (pv == (l0.length : Int)) = false := beq_eq_false_iff_ne.mpr e1
          have c4b1 : (pv != (l0.length : Int)) = true := bne_iff_ne.mpr e1
          have HP1 := Aside0.mk (show pv < (l0.length : Int) by have := HPV.out; omega)
          clear e1
          have ppv : (0 ≤ pv) = True := eq_true ((by have := HRK.out; have := HPV.out; omega))
          have qqv : (pv < (l0.length : Int)) = True := eq_true (HP1.out)
          have HRM := Aside0.mk (show rank < (l0.length : Int) by have := HRK.out; have := HC1.out; omega)
          have ppk : (0 ≤ rank) = True := eq_true (HRK.out.1)
          have qqk : (rank < (l0.length : Int)) = True := eq_true (HRM.out)
          unfold rk.goI2 at H
          obtain ⟨L1, hL1⟩ : ∃ x, iv.swp L rank pv = x := ⟨_, rfl⟩
          rw [hL1] at H
          obtain ⟨iv_, A2_, H1⟩ := Option.bind_eq_some_iff.mp H
          clear H
          have A2 := Aside0.mk A2_
          clear A2_
          obtain ⟨Z, hZ⟩ : ∃ x, rk.rowsI a1 iv_ c rank l0.length (l0.length - (rank.toNat + 1)) (rank + 1) L1 = x := ⟨_, rfl⟩
          rw [hZ] at H1
          have H' := Aside0.mk H1
          have HZ := Aside0.mk hZ
          clear H1 hZ
          try go_wp2
          (first | (rw [drewN_self wc]; generalize hq_ : World.drewN wc _ = w6) | (rw [drew_self wc]; generalize hq1_ : World.drew wc = w6; have hq_ : World.drewN wc 1 = w6 := hq1_; clear hq1_) | (rw [show wc = World.drewN wc 0 from rfl]; generalize hq_ : World.drewN wc 0 = w6))
          have n_ := Aside0.mk (Kd.S_at hq_ SL.out); clear SL; have SL := n_; clear n_
          have n_ := Aside0.mk (ar_below_at hq_ HB.out); clear HB; have HB := n_; clear n_
          clear hq_
          have n_ := Aside0.mk (Kd.S_drew SL.out); clear SL; have SL := n_; clear n_
          have n_ := Aside0.mk (below_drew1 HB.out); clear HB; have HB := n_; clear n_
          obtain ⟨vi, vj, hza, hzc, hfa, hfc, _, hz2, hf2, hsw, _⟩ := mx_swap2 SL.out rank.toNat pv.toNat (by have := HRK.out; have := HRM.out; omega) (by have := HRK.out; have := HPV.out; have := HP1.out; omega)
          have HSW := Aside0.mk hsw
          clear hsw
          obtain ⟨grvi, crvi, hx_, _⟩ := mx_atm (m := l0.length) SL.out rank HRK.out.1 HRM.out (HSL.out.at _ HRK.out.1 HRM.out) (by have := HM.out; omega)
          have e_ := Option.some.inj (hza.symm.trans hx_)
          subst e_
          clear hx_
          obtain ⟨grvj, crvj, hx_, _⟩ := mx_atm (m := l0.length) SL.out pv (by have := HRK.out; have := HPV.out; omega) HP1.out (HSL.out.at _ (by have := HRK.out; have := HPV.out; omega) HP1.out) (by have := HM.out; omega)
          have e_ := Option.some.inj (hzc.symm.trans hx_)
          subst e_
          clear hx_
          refine start_ (n := 16) (S := fun w' => w'.cell? ⟨gL, pv.toNat, none⟩ = some (.slice (some ⟨grvj, 0, none⟩) l0.length crvj : Value) ∧ w'.cell? ⟨gL, rank.toNat, none⟩ = some (.slice (some ⟨grvi, 0, none⟩) l0.length crvi : Value)) (ds := [13, 15]) #[false, false, false, false, false, false, false, false, false, false, false, false, false, false, false, false] (by kernel_rfl) rfl rfl ⟨hzc, hza⟩ (fun hHeld => ?_)
          refine with_tabW impl_rankModulo.tab9 impl_rankModulo.bits9 (fun HT_ HW_ => ?_)
          generalize w6.drew = w7 at SL HB HSW hza hzc hfa hfc hz2 hf2 hHeld ⊢
          refine pure_ (i := 0) (N := some 38) (v := ?_) (a' := ?_) #[true, false, false, false, false, false, false, false, false, false, false, false, false, false, false, false] rfl rfl (any_of HT_.out (by kernel_rfl)) (fun _ _ _ h => h) (Or.inl ⟨by rfl, ?_⟩) ?_ ?_
          rotate_left
          · intro w'
            go_simp
            with_reducible rfl
          rotate_left
          · simp only [Act.put, List.setIfInBounds_toArray, List.set_cons_zero, List.set_cons_succ, i64_w, i32_w]
            rfl
          refine pure_ (i := 1) (N := some 39) (v := ?_) (a' := ?_) #[true, true, false, false, false, false, false, false, false, false, false, false, false, false, false, false] rfl rfl (any_of HT_.out (by kernel_rfl)) (fun _ _ _ h => h) (Or.inl ⟨by rfl, ?_⟩) ?_ ?_
          rotate_left
          · intro w'
            go_simp
            with_reducible rfl
          rotate_left
          · simp only [Act.put, List.setIfInBounds_toArray, List.set_cons_zero, List.set_cons_succ, i64_w, i32_w]
            rfl
          refine pure_ (i := 2) (N := some 40) (v := ?_) (a' := ?_) #[true, true, true, false, false, false, false, false, false, false, false, false, false, false, false, false] rfl rfl (any_of HT_.out (by kernel_rfl)) (fun _ _ _ h => h) (Or.inl ⟨by rfl, ?_⟩) ?_ ?_
          rotate_left
          · intro w'
            go_simp
            with_reducible rfl
          rotate_left
          · simp only [Act.put, List.setIfInBounds_toArray, List.set_cons_zero, List.set_cons_succ, i64_w, i32_w]
            rfl
          refine pure_ (i := 3) (N := some 41) (v := ?_) (a' := ?_) #[true, true, true, true, false, false, false, false, false, false, false, false, false, false, false, false] rfl rfl (any_of HT_.out (by kernel_rfl)) (fun _ _ _ h => h) (Or.inl ⟨by rfl, ?_⟩) ?_ ?_
          rotate_left
          · intro w'
            go_simp
            with_reducible rfl
          rotate_left
          · simp only [Act.put, List.setIfInBounds_toArray, List.set_cons_zero, List.set_cons_succ, i64_w, i32_w]
            rfl
          refine pure_ (i := 4) (N := some 42) (v := ?_) (a' := ?_) #[true, true, true, true, true, false, false, false, false, false, false, false, false, false, false, false] rfl rfl (any_of HT_.out (by kernel_rfl)) (fun _ _ _ h => h) (Or.inl ⟨by rfl, ?_⟩) ?_ ?_
          rotate_left
          · intro w'
            go_simp
            with_reducible rfl
          rotate_left
          · simp only [Act.put, List.setIfInBounds_toArray, List.set_cons_zero, List.set_cons_succ, i64_w, i32_w]
            rfl
          refine pure_ (i := 5) (N := some 43) (v := ?_) (a' := ?_) #[true, true, true, true, true, true, false, false, false, false, false, false, false, false, false, false] rfl rfl (any_of HT_.out (by kernel_rfl)) (fun _ _ _ h => h) (Or.inl ⟨by rfl, ?_⟩) ?_ ?_
          rotate_left
          · intro w'
            go_simp
            with_reducible rfl
          rotate_left
          · simp only [Act.put, List.setIfInBounds_toArray, List.set_cons_zero, List.set_cons_succ, i64_w, i32_w]
            rfl
          refine pure_ (i := 6) (N := some 44) (v := ?_) (a' := ?_) #[true, true, true, true, true, true, true, false, false, false, false, false, false, false, false, false] rfl rfl (any_of HT_.out (by kernel_rfl)) (fun _ _ _ h => h) (Or.inl ⟨by rfl, ?_⟩) ?_ ?_
          rotate_left
          · intro w'
            go_simp
            with_reducible rfl
          rotate_left
          · simp only [Act.put, List.setIfInBounds_toArray, List.set_cons_zero, List.set_cons_succ, i64_w, i32_w]
            rfl
          refine pure_ (i := 8) (N := some 46) (v := ?_) (a' := ?_) #[true, true, true, true, true, true, true, false, true, false, false, false, false, false, false, false] rfl rfl (any_of HT_.out (by kernel_rfl)) (fun _ _ _ h => h) (Or.inl ⟨by rfl, ?_⟩) ?_ ?_
          rotate_left
          · intro w'
            go_simp
            with_reducible rfl
          rotate_left
          · simp only [Act.put, List.setIfInBounds_toArray, List.set_cons_zero, List.set_cons_succ, i64_w, i32_w]
            rfl
          refine pure_ (i := 9) (N := some 47) (v := ?_) (a' := ?_) #[true, true, true, true, true, true, true, false, true, true, false, false, false, false, false, false] rfl rfl (any_of HT_.out (by kernel_rfl)) (fun _ _ _ h => h) (Or.inl ⟨by rfl, ?_⟩) ?_ ?_
          rotate_left
          · intro w'
            go_simp
            with_reducible rfl
          rotate_left
          · simp only [Act.put, List.setIfInBounds_toArray, List.set_cons_zero, List.set_cons_succ, i64_w, i32_w]
            rfl
          refine pure_ (i := 10) (N := some 48) (v := ?_) (a' := ?_) #[true, true, true, true, true, true, true, false, true, true, true, false, false, false, false, false] rfl rfl (any_of HT_.out (by kernel_rfl)) (fun _ _ _ h => h) (Or.inl ⟨by rfl, ?_⟩) ?_ ?_
          rotate_left
          · intro w'
            go_simp
            with_reducible rfl
          rotate_left
          · simp only [Act.put, List.setIfInBounds_toArray, List.set_cons_zero, List.set_cons_succ, i64_w, i32_w]
            rfl
          refine take_ (i := 7) (N := some 45) (v := ?_) (a' := ?_) #[true, true, true, true, true, true, true, true, true, true, true, false, false, false, false, false] rfl rfl (take_ofW HT_.out HW_.out (by kernel_rfl)) (fun _ _ _ h => h) (Or.inl ⟨by rfl, ?_⟩) hHeld ?_ ?_
          rotate_left
          · rintro w' ⟨s0, s1⟩
            go_simp
            with_reducible rfl
          rotate_left
          · simp only [Act.put, List.setIfInBounds_toArray, List.set_cons_zero, List.set_cons_succ, i64_w, i32_w]
            rfl
          refine take_ (i := 11) (N := some 49) (v := ?_) (a' := ?_) #[true, true, true, true, true, true, true, true, true, true, true, true, false, false, false, false] rfl rfl (take_ofW HT_.out HW_.out (by kernel_rfl)) (fun _ _ _ h => h) (Or.inl ⟨by rfl, ?_⟩) hHeld ?_ ?_
          rotate_left
          · rintro w' ⟨s0, s1⟩
            go_simp
            with_reducible rfl
          rotate_left
          · simp only [Act.put, List.setIfInBounds_toArray, List.set_cons_zero, List.set_cons_succ, i64_w, i32_w]
            rfl
          refine pure_ (i := 12) (N := some 50) (v := ?_) (a' := ?_) #[true, true, true, true, true, true, true, true, true, true, true, true, true, false, false, false] rfl rfl (any_of HT_.out (by kernel_rfl)) (fun _ _ _ h => h) (Or.inl ⟨by rfl, ?_⟩) ?_ ?_
          rotate_left
          · intro w'
            go_simp
            with_reducible rfl
          rotate_left
          · simp only [Act.put, List.setIfInBounds_toArray, List.set_cons_zero, List.set_cons_succ, i64_w, i32_w]
            rfl
          refine last_ (i := 13) (N := none) #[true, true, true, true, true, true, true, true, true, true, true, true, true, true, false, false] rfl rfl (one_of HT_.out (by kernel_rfl)) (by decide) (fun K hK => ?_)
          refine skip_ (w1 := ?_) (by rfl) rfl ?_ ?_
          rotate_left
          · first | (go_simp; done) | (go_simp; rfl)
          refine hK.out _ _ ?_
          clear hK K
          refine pure_ (i := 14) (N := some 51) (v := ?_) (a' := ?_) #[true, true, true, true, true, true, true, true, true, true, true, true, true, true, true, false] rfl rfl (any_of HT_.out (by kernel_rfl)) (fun _ _ _ h => h) (Or.inl ⟨by rfl, ?_⟩) ?_ ?_
          rotate_left
          · intro w'
            go_simp
            with_reducible rfl
          rotate_left
          · simp only [Act.put, List.setIfInBounds_toArray, List.set_cons_zero, List.set_cons_succ, i64_w, i32_w]
            rfl
          refine last_ (i := 15) (N := none) #[true, true, true, true, true, true, true, true, true, true, true, true, true, true, true, true] rfl rfl (one_of HT_.out (by kernel_rfl)) (by decide) (fun K hK => ?_)
          refine skip_ (w1 := ?_) (by rfl) rfl ?_ ?_
          rotate_left
          · first | (go_simp; done) | (go_simp; rfl)
          refine hK.out _ _ ?_
          clear hK K
          refine done_ (done_of HT_.out (by kernel_rfl)) ?_
          have n0_ : Aside0 (Mx 2 22 ((World.setCell w7 ⟨gL, rank.toNat, none⟩ (.slice (some ⟨grvj, 0, none⟩) l0.length crvj : Value)).setCell ⟨gL, pv.toNat, none⟩ (.slice (some ⟨grvi, 0, none⟩) l0.length crvi : Value)) w0.heap.size (fun _ => True) (.slice (some ⟨gL, 0, none⟩) l0.length cL) L1) := ⟨by rw [← hL1]; exact HSW.out⟩
          have n2_ : Aside0 (Below w0.heap.size w0 ((World.setCell w7 ⟨gL, rank.toNat, none⟩ (.slice (some ⟨grvj, 0, none⟩) l0.length crvj : Value)).setCell ⟨gL, pv.toNat, none⟩ (.slice (some ⟨grvi, 0, none⟩) l0.length crvi : Value))) := ⟨below_set (below_set HB.out HGL.out) HGL.out⟩
          have n_ : Aside0 (iv.Sq l0.length L1) := ⟨by rw [← hL1]; exact HSL.out.swp _ _ HRK.out.1 HRM.out (by have := HRK.out; have := HPV.out; omega) HP1.out⟩
          clear SL HB HSW hza hzc hfa hfc hz2 hf2 hL1 hHeld HT_ HW_ HSL
          generalize ((World.setCell w7 ⟨gL, rank.toNat, none⟩ (.slice (some ⟨grvj, 0, none⟩) l0.length crvj : Value)).setCell ⟨gL, pv.toNat, none⟩ (.slice (some ⟨grvi, 0, none⟩) l0.length crvi : Value)) = w8 at n0_ n2_ ⊢
          have SL := n0_
          have HB := n2_
          have HSL := n_
          clear n0_ n2_ n_
          have HWR := Aside0.mk (show wrap64 (rank + 1) = rank + 1 by have := HRK.out; have := HC1.out; have := HM.out; unfold wrap64; omega)
          obtain ⟨grA, crA, hzA, hfA_, hbA_, hkA_, hnA_, hcA_, _⟩ := mx_atm (m := l0.length) SL.out rank HRK.out.1 HRM.out (HSL.out.at _ HRK.out.1 HRM.out) (by have := HM.out; omega)
          obtain ⟨hvA0, hfA0⟩ := hcA_ c HC0.out HC1.out
          clear hfA_ hbA_ hkA_ hnA_ hcA_
          go_wp2_with (first | ((with_reducible refine gate_callee (f := 89) rfl ?_); refine goesL_ (some 60) rfl rfl Try.func89 (by kernel_rfl) rfl #[.int .i64 (iv.gt L1 rank c), .int .i64 a1] rfl (by (try simp only [List.map_toArray, List.map_cons, List.map_nil]); first | done | rfl) ?_; (with_reducible refine (impl_inverseModulo.calls k (iv.gt L1 rank c) a1 iv_ _ A2.out).mono ?_); rintro e w' ⟨rfl, ⟨nd, rfl⟩⟩; refine ⟨_, rfl, ?_⟩))
          go_loopg [9] 30 (fun kq v9 wq => ∃ (Lb : List (List Int)) (x : Int) (q : Nat), v9 = .int .i64 x ∧ Aside0 (q < kq) ∧ Aside0 ((q : Int) + x = (l0.length : Int) ∧ rank + 1 ≤ x) ∧ Aside0 (rk.rowsI a1 iv_ c rank l0.length q x Lb = Z) ∧ Aside0 (iv.Sq l0.length Lb) ∧ Aside0 (Mx 2 22 wq w0.heap.size (fun _ => True) (.slice (some ⟨gL, 0, none⟩) l0.length cL) Lb) ∧ Aside0 (Below w0.heap.size w0 wq))
          case atStart => exact ⟨L1, wrap64 (rank + 1), l0.length - (rank.toNat + 1), rfl, ⟨by have := HM.out; omega⟩, ⟨by have := HRK.out; have := HRM.out; rw [HWR.out]; omega⟩, ⟨by rw [HWR.out]; exact HZ.out⟩, HSL, ⟨(by (with_reducible repeat (first | apply Kd.S_alloc | apply Kd.S_drewN | apply Kd.S_drew)); exact SL.out)⟩, ⟨(by repeat (first | (with_reducible first | exact HB.out | apply below_alloc | apply pw_below_drewN | apply below_drew1) | exact HB.out))⟩⟩
          case round =>
            clear SL HB HSL HZ hzA hvA0 hfA0 A2
            obtain ⟨Lb, x, q, rfl, HQ3, HX, HA, HSL, SL, HB⟩ := hrel
            cases gk with
            | zero => exact absurd HQ3.out (Nat.not_lt_zero _)
            | succ k3 =>
            cases q with
            | zero =>
              have cxb : decide (x < (l0.length : Int)) = false := decide_eq_false (by have := HX.out; omega)
              have e_ := HA.out
              simp only [rk.rowsI] at e_
              subst e_
              clear HA
              go_wp2
              go_roundg k1
              case measure => omega
              case rel =>
                exact ⟨Lb, wrap64 (rank + 1), wrap64 (c + 1), n, (by first | rfl | (simp; done) | (simp [*]; done)), (by first | rfl | (simp; done) | (simp [*]; done)), ⟨by have := HQ.out; omega⟩, ⟨by have := HC.out; rw [HWC.out]; omega⟩, ⟨by have := HRK.out; rw [HWC.out, HWR.out]; omega⟩, ⟨by rw [HWC.out, HWR.out]; exact H'.out⟩, HSL, ⟨(by (with_reducible repeat (first | apply Kd.S_alloc | apply Kd.S_drewN | apply Kd.S_drew)); exact SL.out)⟩, ⟨(by repeat (first | (with_reducible first | exact HB.out | apply below_alloc | apply pw_below_drewN | apply below_drew1) | exact HB.out))⟩⟩
            | succ q =>
              have hx0 : 0 ≤ x := by have := HX.out; have := HRK.out; omega
              have hx1 : x < (l0.length : Int) := by have := HX.out; omega
              have cxb : decide (x < (l0.length : Int)) = true := decide_eq_true hx1
              have ppx : (0 ≤ x) = True := eq_true (hx0)
              have qqx : (x < (l0.length : Int)) = True := eq_true (hx1)
              obtain ⟨grA, crA, hzA, hfA_, hbA_, hkA_, hnA_, hcA_, _⟩ := mx_atm (m := l0.length) SL.out x hx0 hx1 (HSL.out.at _ hx0 hx1) (by have := HM.out; omega)
              obtain ⟨hvA0, hfA0⟩ := hcA_ c HC0.out HC1.out
              clear hfA_ hbA_ hkA_ hnA_ hcA_
              have HX0 := Aside0.mk hx0
              have HX1 := Aside0.mk hx1
              clear hx0 hx1
              have HA := HA.out
              unfold rk.rowsI at HA
              have HW := Aside0.mk (show wrap64 (x + 1) = x + 1 by have := HX0.out; have := HX1.out; have := HM.out; unfold wrap64; omega)
              obtain ⟨Le, hLe⟩ : ∃ z, rk.el1 a1 (Int.tmod (wrap64 (iv.gt Lb x c * iv_)) a1) x rank l0.length 0 Lb = z := ⟨_, rfl⟩
              rw [hLe] at HA
              have HLe := Aside0.mk hLe
              have HA := Aside0.mk HA
              clear hLe
              go_wp2
              go_loopg [85] 30 (fun kq v85 wr => ∃ (Lc : List (List Int)) (y : Int) (s : Nat), v85 = .int .i64 y ∧ Aside0 (s < kq) ∧ Aside0 ((s : Int) + y = (l0.length : Int) ∧ 0 ≤ y) ∧ Aside0 (rk.el1 a1 (Int.tmod (wrap64 (iv.gt Lb x c * iv_)) a1) x rank s y Lc = Le) ∧ Aside0 (iv.Sq l0.length Lc) ∧ Aside0 (Mx 2 22 wr w0.heap.size (fun _ => True) (.slice (some ⟨gL, 0, none⟩) l0.length cL) Lc) ∧ Aside0 (Below w0.heap.size w0 wr))
              case atStart => exact ⟨Lb, 0, l0.length, (by first | rfl | (simp; done) | (simp [*]; done)), ⟨by have := HM.out; omega⟩, ⟨by omega⟩, HLe, HSL, ⟨(by (with_reducible repeat (first | apply Kd.S_alloc | apply Kd.S_drewN | apply Kd.S_drew)); exact SL.out)⟩, ⟨(by repeat (first | (with_reducible first | exact HB.out | apply below_alloc | apply pw_below_drewN | apply below_drew1) | exact HB.out))⟩⟩
              case round =>
                clear SL HB HSL hzA hvA0 hfA0
                obtain ⟨Lc, y, s, rfl, HQ4, HY, HE, HSL, SL, HB⟩ := hrel
                cases gk with
                | zero => exact absurd HQ4.out (Nat.not_lt_zero _)
                | succ k4 =>
                cases s with
                | zero =>
                  have cyb : decide (y < (l0.length : Int)) = false := decide_eq_false (by have := HY.out; omega)
                  have e_ := HE.out
                  simp only [rk.el1] at e_
                  subst e_
                  clear HE
                  go_wp2
                  go_roundg k3
                  case measure => omega
                  case rel => exact ⟨Lc, wrap64 (x + 1), q, (by first | rfl | (simp; done) | (simp [*]; done)), ⟨by have := HQ3.out; omega⟩, ⟨by have := HX.out; rw [HW.out]; omega⟩, ⟨by rw [HW.out]; exact HA.out⟩, HSL, ⟨(by (with_reducible repeat (first | apply Kd.S_alloc | apply Kd.S_drewN | apply Kd.S_drew)); exact SL.out)⟩, ⟨(by repeat (first | (with_reducible first | exact HB.out | apply below_alloc | apply pw_below_drewN | apply below_drew1) | exact HB.out))⟩⟩
                | succ s =>
                  have h0 : 0 ≤ y := HY.out.2
                  have h1 : y < (l0.length : Int) := by have := HY.out; omega
                  have cyb : decide (y < (l0.length : Int)) = true := decide_eq_true h1
                  have ppy : (0 ≤ y) = True := eq_true (h0)
                  have qqy : (y < (l0.length : Int)) = True := eq_true (h1)
                  have HY0 := Aside0.mk h0
                  have HY1 := Aside0.mk h1
                  clear h0 h1
                  try go_wp2
                  (first | (rw [drewN_self wr]; generalize hq_ : World.drewN wr _ = w6) | (rw [drew_self wr]; generalize hq1_ : World.drew wr = w6; have hq_ : World.drewN wr 1 = w6 := hq1_; clear hq1_) | (rw [show wr = World.drewN wr 0 from rfl]; generalize hq_ : World.drewN wr 0 = w6))
                  have n_ := Aside0.mk (Kd.S_at hq_ SL.out); clear SL; have SL := n_; clear n_
                  have n_ := Aside0.mk (ar_below_at hq_ HB.out); clear HB; have HB := n_; clear n_
                  clear hq_
                  have n_ := Aside0.mk (Kd.S_drew SL.out); clear SL; have SL := n_; clear n_
                  have n_ := Aside0.mk (below_drew1 HB.out); clear HB; have HB := n_; clear n_
                  obtain ⟨grA, crA, hzA, hfA_, hbA_, hkA_, hnA_, hcA_, _⟩ := mx_atm (m := l0.length) SL.out x HX0.out HX1.out (HSL.out.at _ HX0.out HX1.out) (by have := HM.out; omega)
                  obtain ⟨hvA0, hfA0⟩ := hcA_ y HY0.out HY1.out
                  clear hfA_ hbA_ hkA_ hnA_ hcA_
                  obtain ⟨grB, crB, hzB, hfB_, hbB_, hkB_, hnB_, hcB_, _⟩ := mx_atm (m := l0.length) SL.out rank HRK.out.1 HRM.out (HSL.out.at _ HRK.out.1 HRM.out) (by have := HM.out; omega)
                  obtain ⟨hvB0, hfB0⟩ := hcB_ y HY0.out HY1.out
                  clear hfB_ hbB_ hkB_ hnB_ hcB_
                  clear hfB0
                  refine start_ (n := 28) (S := fun w' => w'.cell? ⟨gL, (x).toNat, none⟩ = some (.slice (some ⟨grA, 0, none⟩) l0.length crA) ∧ w'.cell? ⟨grA, (y).toNat, none⟩ = some (.int .i64 (iv.gt Lc x y)) ∧ w'.frozen? ⟨grA, (y).toNat, none⟩ = false ∧ w'.cell? ⟨gL, (rank).toNat, none⟩ = some (.slice (some ⟨grB, 0, none⟩) l0.length crB) ∧ w'.cell? ⟨grB, (y).toNat, none⟩ = some (.int .i64 (iv.gt Lc rank y))) (ds := [27]) #[false, false, false, false, false, false, false, false, false, false, false, false, false, false, false, false, false, false, false, false, false, false, false, false, false, false, false, false] (by kernel_rfl) rfl rfl ⟨hzA, hvA0, hfA0, hzB, hvB0⟩ (fun hHeld => ?_)
                  refine with_tabW impl_rankModulo.tab18 impl_rankModulo.bits18 (fun HT_ HW_ => ?_)
                  generalize w6.drew = w7 at SL HB hzA hvA0 hfA0 hzB hvB0 hHeld ⊢
                  refine pure_ (i := 0) (N := some 88) (v := ?_) (a' := ?_) #[true, false, false, false, false, false, false, false, false, false, false, false, false, false, false, false, false, false, false, false, false, false, false, false, false, false, false, false] rfl rfl (any_of HT_.out (by kernel_rfl)) (fun _ _ _ h => h) (Or.inl ⟨by rfl, ?_⟩) ?_ ?_
                  rotate_left
                  · intro w'
                    go_simp
                    with_reducible rfl
                  rotate_left
                  · simp only [Act.put, List.setIfInBounds_toArray, List.set_cons_zero, List.set_cons_succ, i64_w, i32_w]
                    rfl
                  refine pure_ (i := 1) (N := some 89) (v := ?_) (a' := ?_) #[true, true, false, false, false, false, false, false, false, false, false, false, false, false, false, false, false, false, false, false, false, false, false, false, false, false, false, false] rfl rfl (any_of HT_.out (by kernel_rfl)) (fun _ _ _ h => h) (Or.inl ⟨by rfl, ?_⟩) ?_ ?_
                  rotate_left
                  · intro w'
                    go_simp
                    with_reducible rfl
                  rotate_left
                  · simp only [Act.put, List.setIfInBounds_toArray, List.set_cons_zero, List.set_cons_succ, i64_w, i32_w]
                    rfl
                  refine pure_ (i := 2) (N := some 90) (v := ?_) (a' := ?_) #[true, true, true, false, false, false, false, false, false, false, false, false, false, false, false, false, false, false, false, false, false, false, false, false, false, false, false, false] rfl rfl (any_of HT_.out (by kernel_rfl)) (fun _ _ _ h => h) (Or.inl ⟨by rfl, ?_⟩) ?_ ?_
                  rotate_left
                  · intro w'
                    go_simp
                    with_reducible rfl
                  rotate_left
                  · simp only [Act.put, List.setIfInBounds_toArray, List.set_cons_zero, List.set_cons_succ, i64_w, i32_w]
                    rfl
                  refine pure_ (i := 4) (N := some 92) (v := ?_) (a' := ?_) #[true, true, true, false, true, false, false, false, false, false, false, false, false, false, false, false, false, false, false, false, false, false, false, false, false, false, false, false] rfl rfl (any_of HT_.out (by kernel_rfl)) (fun _ _ _ h => h) (Or.inl ⟨by rfl, ?_⟩) ?_ ?_
                  rotate_left
                  · intro w'
                    go_simp
                    with_reducible rfl
                  rotate_left
                  · simp only [Act.put, List.setIfInBounds_toArray, List.set_cons_zero, List.set_cons_succ, i64_w, i32_w]
                    rfl
                  refine pure_ (i := 5) (N := some 93) (v := ?_) (a' := ?_) #[true, true, true, false, true, true, false, false, false, false, false, false, false, false, false, false, false, false, false, false, false, false, false, false, false, false, false, false] rfl rfl (any_of HT_.out (by kernel_rfl)) (fun _ _ _ h => h) (Or.inl ⟨by rfl, ?_⟩) ?_ ?_
                  rotate_left
                  · intro w'
                    go_simp
                    with_reducible rfl
                  rotate_left
                  · simp only [Act.put, List.setIfInBounds_toArray, List.set_cons_zero, List.set_cons_succ, i64_w, i32_w]
                    rfl
                  refine pure_ (i := 6) (N := some 94) (v := ?_) (a' := ?_) #[true, true, true, false, true, true, true, false, false, false, false, false, false, false, false, false, false, false, false, false, false, false, false, false, false, false, false, false] rfl rfl (any_of HT_.out (by kernel_rfl)) (fun _ _ _ h => h) (Or.inl ⟨by rfl, ?_⟩) ?_ ?_
                  rotate_left
                  · intro w'
                    go_simp
                    with_reducible rfl
                  rotate_left
                  · simp only [Act.put, List.setIfInBounds_toArray, List.set_cons_zero, List.set_cons_succ, i64_w, i32_w]
                    rfl
                  refine pure_ (i := 7) (N := some 95) (v := ?_) (a' := ?_) #[true, true, true, false, true, true, true, true, false, false, false, false, false, false, false, false, false, false, false, false, false, false, false, false, false, false, false, false] rfl rfl (any_of HT_.out (by kernel_rfl)) (fun _ _ _ h => h) (Or.inl ⟨by rfl, ?_⟩) ?_ ?_
                  rotate_left
                  · intro w'
                    go_simp
                    with_reducible rfl
                  rotate_left
                  · simp only [Act.put, List.setIfInBounds_toArray, List.set_cons_zero, List.set_cons_succ, i64_w, i32_w]
                    rfl
                  refine pure_ (i := 9) (N := some 97) (v := ?_) (a' := ?_) #[true, true, true, false, true, true, true, true, false, true, false, false, false, false, false, false, false, false, false, false, false, false, false, false, false, false, false, false] rfl rfl (any_of HT_.out (by kernel_rfl)) (fun _ _ _ h => h) (Or.inl ⟨by rfl, ?_⟩) ?_ ?_
                  rotate_left
                  · intro w'
                    go_simp
                    with_reducible rfl
                  rotate_left
                  · simp only [Act.put, List.setIfInBounds_toArray, List.set_cons_zero, List.set_cons_succ, i64_w, i32_w]
                    rfl
                  refine pure_ (i := 12) (N := some 100) (v := ?_) (a' := ?_) #[true, true, true, false, true, true, true, true, false, true, false, false, true, false, false, false, false, false, false, false, false, false, false, false, false, false, false, false] rfl rfl (any_of HT_.out (by kernel_rfl)) (fun _ _ _ h => h) (Or.inl ⟨by rfl, ?_⟩) ?_ ?_
                  rotate_left
                  · intro w'
                    go_simp
                    with_reducible rfl
                  rotate_left
                  · simp only [Act.put, List.setIfInBounds_toArray, List.set_cons_zero, List.set_cons_succ, i64_w, i32_w]
                    rfl
                  refine pure_ (i := 13) (N := some 101) (v := ?_) (a' := ?_) #[true, true, true, false, true, true, true, true, false, true, false, false, true, true, false, false, false, false, false, false, false, false, false, false, false, false, false, false] rfl rfl (any_of HT_.out (by kernel_rfl)) (fun _ _ _ h => h) (Or.inl ⟨by rfl, ?_⟩) ?_ ?_
                  rotate_left
                  · intro w'
                    go_simp
                    with_reducible rfl
                  rotate_left
                  · simp only [Act.put, List.setIfInBounds_toArray, List.set_cons_zero, List.set_cons_succ, i64_w, i32_w]
                    rfl
                  refine pure_ (i := 14) (N := some 102) (v := ?_) (a' := ?_) #[true, true, true, false, true, true, true, true, false, true, false, false, true, true, true, false, false, false, false, false, false, false, false, false, false, false, false, false] rfl rfl (any_of HT_.out (by kernel_rfl)) (fun _ _ _ h => h) (Or.inl ⟨by rfl, ?_⟩) ?_ ?_
                  rotate_left
                  · intro w'
                    go_simp
                    with_reducible rfl
                  rotate_left
                  · simp only [Act.put, List.setIfInBounds_toArray, List.set_cons_zero, List.set_cons_succ, i64_w, i32_w]
                    rfl
                  refine pure_ (i := 15) (N := some 103) (v := ?_) (a' := ?_) #[true, true, true, false, true, true, true, true, false, true, false, false, true, true, true, true, false, false, false, false, false, false, false, false, false, false, false, false] rfl rfl (any_of HT_.out (by kernel_rfl)) (fun _ _ _ h => h) (Or.inl ⟨by rfl, ?_⟩) ?_ ?_
                  rotate_left
                  · intro w'
                    go_simp
                    with_reducible rfl
                  rotate_left
                  · simp only [Act.put, List.setIfInBounds_toArray, List.set_cons_zero, List.set_cons_succ, i64_w, i32_w]
                    rfl
                  refine pure_ (i := 16) (N := some 104) (v := ?_) (a' := ?_) #[true, true, true, false, true, true, true, true, false, true, false, false, true, true, true, true, true, false, false, false, false, false, false, false, false, false, false, false] rfl rfl (any_of HT_.out (by kernel_rfl)) (fun _ _ _ h => h) (Or.inl ⟨by rfl, ?_⟩) ?_ ?_
                  rotate_left
                  · intro w'
                    go_simp
                    with_reducible rfl
                  rotate_left
                  · simp only [Act.put, List.setIfInBounds_toArray, List.set_cons_zero, List.set_cons_succ, i64_w, i32_w]
                    rfl
                  refine pure_ (i := 17) (N := some 105) (v := ?_) (a' := ?_) #[true, true, true, false, true, true, true, true, false, true, false, false, true, true, true, true, true, true, false, false, false, false, false, false, false, false, false, false] rfl rfl (any_of HT_.out (by kernel_rfl)) (fun _ _ _ h => h) (Or.inl ⟨by rfl, ?_⟩) ?_ ?_
                  rotate_left
                  · intro w'
                    go_simp
                    with_reducible rfl
                  rotate_left
                  · simp only [Act.put, List.setIfInBounds_toArray, List.set_cons_zero, List.set_cons_succ, i64_w, i32_w]
                    rfl
                  refine pure_ (i := 19) (N := some 107) (v := ?_) (a' := ?_) #[true, true, true, false, true, true, true, true, false, true, false, false, true, true, true, true, true, true, false, true, false, false, false, false, false, false, false, false] rfl rfl (any_of HT_.out (by kernel_rfl)) (fun _ _ _ h => h) (Or.inl ⟨by rfl, ?_⟩) ?_ ?_
                  rotate_left
                  · intro w'
                    go_simp
                    with_reducible rfl
                  rotate_left
                  · simp only [Act.put, List.setIfInBounds_toArray, List.set_cons_zero, List.set_cons_succ, i64_w, i32_w]
                    rfl
                  refine pure_ (i := 24) (N := some 112) (v := ?_) (a' := ?_) #[true, true, true, false, true, true, true, true, false, true, false, false, true, true, true, true, true, true, false, true, false, false, false, false, true, false, false, false] rfl rfl (any_of HT_.out (by kernel_rfl)) (fun _ _ _ h => h) (Or.inl ⟨by rfl, ?_⟩) ?_ ?_
                  rotate_left
                  · intro w'
                    go_simp
                    with_reducible rfl
                  rotate_left
                  · simp only [Act.put, List.setIfInBounds_toArray, List.set_cons_zero, List.set_cons_succ, i64_w, i32_w]
                    rfl
                  refine take_ (i := 3) (N := some 91) (v := ?_) (a' := ?_) #[true, true, true, true, true, true, true, true, false, true, false, false, true, true, true, true, true, true, false, true, false, false, false, false, true, false, false, false] rfl rfl (take_ofW HT_.out HW_.out (by kernel_rfl)) (fun _ _ _ h => h) (Or.inl ⟨by rfl, ?_⟩) hHeld ?_ ?_
                  rotate_left
                  · rintro w' ⟨s0, s1, s2, s3, s4⟩
                    go_simp
                    with_reducible rfl
                  rotate_left
                  · simp only [Act.put, List.setIfInBounds_toArray, List.set_cons_zero, List.set_cons_succ, i64_w, i32_w]
                    rfl
                  refine take_ (i := 8) (N := some 96) (v := ?_) (a' := ?_) #[true, true, true, true, true, true, true, true, true, true, false, false, true, true, true, true, true, true, false, true, false, false, false, false, true, false, false, false] rfl rfl (take_ofW HT_.out HW_.out (by kernel_rfl)) (fun _ _ _ h => h) (Or.inl ⟨by rfl, ?_⟩) hHeld ?_ ?_
                  rotate_left
                  · rintro w' ⟨s0, s1, s2, s3, s4⟩
                    go_simp
                    with_reducible rfl
                  rotate_left
                  · simp only [Act.put, List.setIfInBounds_toArray, List.set_cons_zero, List.set_cons_succ, i64_w, i32_w]
                    rfl
                  refine pure_ (i := 10) (N := some 98) (v := ?_) (a' := ?_) #[true, true, true, true, true, true, true, true, true, true, true, false, true, true, true, true, true, true, false, true, false, false, false, false, true, false, false, false] rfl rfl (any_of HT_.out (by kernel_rfl)) (fun _ _ _ h => h) (Or.inl ⟨by rfl, ?_⟩) ?_ ?_
                  rotate_left
                  · intro w'
                    go_simp
                    with_reducible rfl
                  rotate_left
                  · simp only [Act.put, List.setIfInBounds_toArray, List.set_cons_zero, List.set_cons_succ, i64_w, i32_w]
                    rfl
                  refine take_ (i := 11) (N := some 99) (v := ?_) (a' := ?_) #[true, true, true, true, true, true, true, true, true, true, true, true, true, true, true, true, true, true, false, true, false, false, false, false, true, false, false, false] rfl rfl (take_ofW HT_.out HW_.out (by kernel_rfl)) (fun _ _ _ h => h) (Or.inl ⟨by rfl, ?_⟩) hHeld ?_ ?_
                  rotate_left
                  · rintro w' ⟨s0, s1, s2, s3, s4⟩
                    go_simp
                    with_reducible rfl
                  rotate_left
                  · simp only [Act.put, List.setIfInBounds_toArray, List.set_cons_zero, List.set_cons_succ, i64_w, i32_w]
                    rfl
                  refine take_ (i := 18) (N := some 106) (v := ?_) (a' := ?_) #[true, true, true, true, true, true, true, true, true, true, true, true, true, true, true, true, true, true, true, true, false, false, false, false, true, false, false, false] rfl rfl (take_ofW HT_.out HW_.out (by kernel_rfl)) (fun _ _ _ h => h) (Or.inl ⟨by rfl, ?_⟩) hHeld ?_ ?_
                  rotate_left
                  · rintro w' ⟨s0, s1, s2, s3, s4⟩
                    go_simp
                    with_reducible rfl
                  rotate_left
                  · simp only [Act.put, List.setIfInBounds_toArray, List.set_cons_zero, List.set_cons_succ, i64_w, i32_w]
                    rfl
                  refine pure_ (i := 20) (N := some 108) (v := ?_) (a' := ?_) #[true, true, true, true, true, true, true, true, true, true, true, true, true, true, true, true, true, true, true, true, true, false, false, false, true, false, false, false] rfl rfl (any_of HT_.out (by kernel_rfl)) (fun _ _ _ h => h) (Or.inl ⟨by rfl, ?_⟩) ?_ ?_
                  rotate_left
                  · intro w'
                    go_simp
                    with_reducible rfl
                  rotate_left
                  · simp only [Act.put, List.setIfInBounds_toArray, List.set_cons_zero, List.set_cons_succ, i64_w, i32_w]
                    rfl
                  refine take_ (i := 21) (N := some 109) (v := ?_) (a' := ?_) #[true, true, true, true, true, true, true, true, true, true, true, true, true, true, true, true, true, true, true, true, true, true, false, false, true, false, false, false] rfl rfl (take_ofW HT_.out HW_.out (by kernel_rfl)) (fun _ _ _ h => h) (Or.inl ⟨by rfl, ?_⟩) hHeld ?_ ?_
                  rotate_left
                  · rintro w' ⟨s0, s1, s2, s3, s4⟩
                    go_simp
                    with_reducible rfl
                  rotate_left
                  · simp only [Act.put, List.setIfInBounds_toArray, List.set_cons_zero, List.set_cons_succ, i64_w, i32_w]
                    rfl
                  refine pure_ (i := 22) (N := some 110) (v := ?_) (a' := ?_) #[true, true, true, true, true, true, true, true, true, true, true, true, true, true, true, true, true, true, true, true, true, true, true, false, true, false, false, false] rfl rfl (any_of HT_.out (by kernel_rfl)) (fun _ _ _ h => h) (Or.inl ⟨by rfl, ?_⟩) ?_ ?_
                  rotate_left
                  · intro w'
                    go_simp
                    with_reducible rfl
                  rotate_left
                  · simp only [Act.put, List.setIfInBounds_toArray, List.set_cons_zero, List.set_cons_succ, i64_w, i32_w]
                    rfl
                  refine pure_ (i := 23) (N := some 111) (v := ?_) (a' := ?_) #[true, true, true, true, true, true, true, true, true, true, true, true, true, true, true, true, true, true, true, true, true, true, true, true, true, false, false, false] rfl rfl (any_of HT_.out (by kernel_rfl)) (fun _ _ _ h => h) (Or.inl ⟨by rfl, ?_⟩) ?_ ?_
                  rotate_left
                  · intro w'
                    go_simp
                    with_reducible rfl
                  rotate_left
                  · simp only [Act.put, List.setIfInBounds_toArray, List.set_cons_zero, List.set_cons_succ, i64_w, i32_w]
                    rfl
                  refine pure_ (i := 25) (N := some 113) (v := ?_) (a' := ?_) #[true, true, true, true, true, true, true, true, true, true, true, true, true, true, true, true, true, true, true, true, true, true, true, true, true, true, false, false] rfl rfl (any_of HT_.out (by kernel_rfl)) (fun _ _ _ h => h) (Or.inl ⟨by rfl, ?_⟩) ?_ ?_
                  rotate_left
                  · intro w'
                    go_simp
                    with_reducible rfl
                  rotate_left
                  · simp only [Act.put, List.setIfInBounds_toArray, List.set_cons_zero, List.set_cons_succ, i64_w, i32_w]
                    rfl
                  refine pure_ (i := 26) (N := some 114) (v := ?_) (a' := ?_) #[true, true, true, true, true, true, true, true, true, true, true, true, true, true, true, true, true, true, true, true, true, true, true, true, true, true, true, false] rfl rfl (any_of HT_.out (by kernel_rfl)) (fun _ _ _ h => h) (Or.inl ⟨by rfl, ?_⟩) ?_ ?_
                  rotate_left
                  · intro w'
                    go_simp
                    with_reducible rfl
                  rotate_left
                  · simp only [Act.put, List.setIfInBounds_toArray, List.set_cons_zero, List.set_cons_succ, i64_w, i32_w]
                    rfl
                  refine last_ (i := 27) (N := none) #[true, true, true, true, true, true, true, true, true, true, true, true, true, true, true, true, true, true, true, true, true, true, true, true, true, true, true, true] rfl rfl (one_of HT_.out (by kernel_rfl)) (by decide) (fun K hK => ?_)
                  refine skip_ (w1 := ?_) (by rfl) rfl ?_ ?_
                  rotate_left
                  · first | (go_simp; done) | (go_simp; rfl)
                  refine hK.out _ _ ?_
                  clear hK K
                  refine done_ (done_of HT_.out (by kernel_rfl)) ?_
                  obtain ⟨hst, hok_, hbs_⟩ := mx_store SL.out x HX0.out HX1.out (HSL.out.at _ HX0.out HX1.out) (by have := HM.out; omega) hzA y (Int.tmod (wrap64 (iv.gt Lc x y + wrap64 (wrap64 (a1 - Int.tmod (wrap64 (iv.gt Lb x c * iv_)) a1) * iv.gt Lc rank y))) a1) HY0.out HY1.out
                  have n0_ : Aside0 (Mx 2 22 (World.setCell w7 ⟨grA, y.toNat, none⟩ (.int .i64 (Int.tmod (wrap64 (iv.gt Lc x y + wrap64 (wrap64 (a1 - Int.tmod (wrap64 (iv.gt Lb x c * iv_)) a1) * iv.gt Lc rank y))) a1))) w0.heap.size (fun _ => True) (.slice (some ⟨gL, 0, none⟩) l0.length cL) (iv.pt Lc x y (Int.tmod (wrap64 (iv.gt Lc x y + wrap64 (wrap64 (a1 - Int.tmod (wrap64 (iv.gt Lb x c * iv_)) a1) * iv.gt Lc rank y))) a1))) := ⟨hst⟩
                  have n2_ : Aside0 (Below w0.heap.size w0 (World.setCell w7 ⟨grA, y.toNat, none⟩ (.int .i64 (Int.tmod (wrap64 (iv.gt Lc x y + wrap64 (wrap64 (a1 - Int.tmod (wrap64 (iv.gt Lb x c * iv_)) a1) * iv.gt Lc rank y))) a1)))) := ⟨below_set HB.out hbs_⟩
                  clear hst hok_ hbs_ hHeld HT_ HW_ hzA hvA0 hfA0 hzB hvB0 SL HB
                  generalize (World.setCell w7 ⟨grA, y.toNat, none⟩ (.int .i64 (Int.tmod (wrap64 (iv.gt Lc x y + wrap64 (wrap64 (a1 - Int.tmod (wrap64 (iv.gt Lb x c * iv_)) a1) * iv.gt Lc rank y))) a1))) = w8 at n0_ n2_ ⊢
                  have SL := n0_
                  have HB := n2_
                  clear n0_ n2_
                  try go_wp2
                  go_roundg k4
                  case measure => omega
                  case rel =>
                    have HW2 := Aside0.mk (show wrap64 (y + 1) = y + 1 by have := HY0.out; have := HY1.out; have := HM.out; unfold wrap64; omega)
                    exact ⟨(iv.pt Lc x y (Int.tmod (wrap64 (iv.gt Lc x y + wrap64 (wrap64 (a1 - Int.tmod (wrap64 (iv.gt Lb x c * iv_)) a1) * iv.gt Lc rank y))) a1)), wrap64 (y + 1), s, (by first | rfl | (simp; done) | (simp [*]; done)), ⟨by have := HQ4.out; omega⟩, ⟨by have := HY.out; rw [HW2.out]; omega⟩, ⟨by rw [HW2.out]; exact HE.out⟩, ⟨HSL.out.pt _ _ _ HX0.out HX1.out⟩, ⟨(by (with_reducible repeat (first | apply Kd.S_alloc | apply Kd.S_drewN | apply Kd.S_drew)); exact SL.out)⟩, ⟨(by repeat (first | (with_reducible first | exact HB.out | apply below_alloc | apply pw_below_drewN | apply below_drew1) | exact HB.out))⟩⟩


/-! ### impl_CountColourings: function 21 -/
def impl_CountColourings.f (k : Nat) (a0_0 : Int) (l0_1 : List Int) (a1 : Int) : Option (Int × Int) := (impl_IsBraid.f k a0_0 l0_1).bind fun t => if t = true then (impl_isPrime.f k a1).bind fun t2 => if t2 = true then (if (1 ≤ a0_0 ∧ a0_0 ≤ 8) ∧ (3 ≤ a1 ∧ a1 ≤ 97) then (rk.rows (fun u => impl_colour.f k l0_1 a1 u) a1 a0_0.toNat a0_0.toNat 0 []).bind fun L => (impl_rankModulo.f k L a1).bind fun r => some (wrap64 (a0_0 - r), 0) else none) else some (0, 2) else some (0, 1)
theorem impl_CountColourings.mono : ∀ a0 a1 a2 k, LeO (impl_CountColourings.f k a0 a1 a2) (impl_CountColourings.f (k + 1) a0 a1 a2) := by
  intro a0 a1 a2 k
  unfold impl_CountColourings.f
  exact LeO.bind (impl_IsBraid.mono _ _ _) (fun _ => LeO.ite (LeO.bind (impl_isPrime.mono _ _) (fun _ => LeO.ite (LeO.ite (LeO.bind (rk.rows_mono _ _ _ _ (fun _ => impl_colour.mono _ _ _ _) _ _ _) (fun _ => LeO.bind (impl_rankModulo.mono _ _ _) (fun _ => LeO.refl _))) (LeO.refl _)) (LeO.refl _))) (LeO.refl _))
def impl_CountColourings.T15 : Bool × List (List Nat × List Nat) := (true, [([], []), ([0], [0]), ([], []), ([], []), ([2, 3], [2, 3]), ([1, 4], [1, 4]), ([5, 4, 0, 1, 2, 3, 4, 5], [5]), ([6, 0, 1, 2, 3, 4, 5, 6], [])])
def impl_CountColourings.B15 : List Nat := [0, 1, 0, 0, 12, 31, 63, 127]
theorem impl_CountColourings.tab15 : rtab .any (opsOf Try.f21 15) = impl_CountColourings.T15 := by kernel_rfl
theorem impl_CountColourings.bits15 : waitsOk impl_CountColourings.T15.2 impl_CountColourings.B15 = true := by kernel_rfl
set_option maxHeartbeats 8000000 in
set_option maxRecDepth 100000 in
theorem impl_CountColourings.calls (k : Nat) (a0_0 : Int) (A0_1 : Option Addr) (c0_1 : Nat) (l0_1 : List Int) (a1 : Int) (r1 : Int) (r2 : Int) (w : World) (hr0_1 : Kd.C (Kd.int .i64) w A0_1 l0_1.length l0_1) (hc0_1 : l0_1.length ≤ c0_1) (h : impl_CountColourings.f k a0_0 l0_1 a1 = some (r1, r2)) :
    Calls Try.prog 21 #[.agg #[.int .i64 a0_0, .slice A0_1 l0_1.length c0_1], .int .i64 a1] w fun e w' => e = .returned (.tuple #[.int .i64 r1, .int .i64 r2]) ∧ Below w.heap.size w w' := by
  have hu := Try.underlying26
  have HR0 := Aside0.mk hr0_1
  have HC0 := Aside0.mk hc0_1
  clear hr0_1 hc0_1
  have HB := Aside0.mk (Below.refl w.heap.size w)
  have H0 := h
  clear h
  unfold impl_CountColourings.f at H0
  obtain ⟨t1, A1_, H1⟩ := Option.bind_eq_some_iff.mp H0
  clear H0
  have A1 := Aside0.mk A1_
  clear A1_
  cases t1 with
  | false =>
    simp only [Bool.false_eq_true, if_false, Option.some.injEq, Prod.mk.injEq] at H1
    obtain ⟨rfl, rfl⟩ := H1
    go_enter Try.func21, Try.ntmps21
    go_wp2_with (first | ((with_reducible refine gate_dst (N := 2) rfl ?_); refine box_event ?hg (N := 2) ?hd (cs := #[.int .i64 a0_0, .slice A0_1 l0_1.length c0_1]) (t := 26) ?hr ?_; (case hd => rfl); (case hg => rfl); (case hr => first | (go_simp; done) | (go_simp; rfl)); intro gb hg w1 hbox hb; have n_ := Aside0.mk (below_step (by repeat (first | (with_reducible first | exact HB.out | apply below_alloc | apply pw_below_drewN | apply below_drew1) | exact HB.out)) hb); clear HB; have HB := n_; clear n_; have HCB0 := Aside0.mk ((blk_cell hbox 0).trans rfl); have HCB1 := Aside0.mk ((blk_cell hbox 1).trans rfl); have HB2 := Aside0.mk (Below.refl w1.heap.size w1); have HRA := Aside0.mk (Kd.C_below HR0.out HB.out); clear hg hb; have hzgb_0 := (blk_cell hbox 0).trans rfl; have hzgb_1 := (blk_cell hbox 1).trans rfl; clear hbox) | ((with_reducible refine gate_callee (f := 47) rfl ?_); refine goesL_ (some 12) rfl rfl Try.func47 (by kernel_rfl) rfl #[.agg #[.int .i64 a0_0, .slice A0_1 l0_1.length c0_1]] rfl (by (try simp only [List.map_toArray, List.map_cons, List.map_nil]); first | done | rfl) ?_; (with_reducible refine (impl_IsBraid.calls k a0_0 _ _ l0_1 _ _ ?side1 ?side2 A1.out).mono ?_); (case side1 => repeat (first | exact (Kd.C_below HRA.out HB2.out) | (with_reducible refine Kd.C_alloc ?_ _) | (with_reducible refine Kd.C_drewN ?_ _) | (with_reducible refine Kd.C_drew ?_))); (case side2 => exact HC0.out); rintro e wi ⟨rfl, hb⟩; refine ⟨_, rfl, ?_⟩; have n_ := Aside0.mk (below_step (by repeat (first | (with_reducible first | exact HB2.out | apply below_alloc | apply pw_below_drewN | apply below_drew1) | exact HB2.out)) hb); clear HB2; have HB2 := n_; clear n_; clear hb; (try clear hzgb_0 hzgb_1); have hzgb_0 := (HB2.out.cell (World.block_lt_of_cell? w1 _ HCB0.out)).trans HCB0.out; have hzgb_1 := (HB2.out.cell (World.block_lt_of_cell? w1 _ HCB1.out)).trans HCB1.out))
    go_ret2
    exact ⟨rfl, below_step HB.out (by repeat (first | (with_reducible first | exact HB2.out | apply below_alloc | apply pw_below_drewN | apply below_drew1) | exact HB2.out))⟩
  | true =>
    simp only [if_true] at H1
    obtain ⟨t2, A2_, H2⟩ := Option.bind_eq_some_iff.mp H1
    clear H1
    have A2 := Aside0.mk A2_
    clear A2_
    cases t2 with
    | false =>
      simp only [Bool.false_eq_true, if_false, Option.some.injEq, Prod.mk.injEq] at H2
      obtain ⟨rfl, rfl⟩ := H2
      go_enter Try.func21, Try.ntmps21
      go_wp2_with (first | ((with_reducible refine gate_dst (N := 2) rfl ?_); refine box_event ?hg (N := 2) ?hd (cs := #[.int .i64 a0_0, .slice A0_1 l0_1.length c0_1]) (t := 26) ?hr ?_; (case hd => rfl); (case hg => rfl); (case hr => first | (go_simp; done) | (go_simp; rfl)); intro gb hg w1 hbox hb; have n_ := Aside0.mk (below_step (by repeat (first | (with_reducible first | exact HB.out | apply below_alloc | apply pw_below_drewN | apply below_drew1) | exact HB.out)) hb); clear HB; have HB := n_; clear n_; have HCB0 := Aside0.mk ((blk_cell hbox 0).trans rfl); have HCB1 := Aside0.mk ((blk_cell hbox 1).trans rfl); have HB2 := Aside0.mk (Below.refl w1.heap.size w1); have HRA := Aside0.mk (Kd.C_below HR0.out HB.out); clear hg hb; have hzgb_0 := (blk_cell hbox 0).trans rfl; have hzgb_1 := (blk_cell hbox 1).trans rfl; clear hbox) | ((with_reducible refine gate_callee (f := 47) rfl ?_); refine goesL_ (some 12) rfl rfl Try.func47 (by kernel_rfl) rfl #[.agg #[.int .i64 a0_0, .slice A0_1 l0_1.length c0_1]] rfl (by (try simp only [List.map_toArray, List.map_cons, List.map_nil]); first | done | rfl) ?_; (with_reducible refine (impl_IsBraid.calls k a0_0 _ _ l0_1 _ _ ?side1 ?side2 A1.out).mono ?_); (case side1 => repeat (first | exact (Kd.C_below HRA.out HB2.out) | (with_reducible refine Kd.C_alloc ?_ _) | (with_reducible refine Kd.C_drewN ?_ _) | (with_reducible refine Kd.C_drew ?_))); (case side2 => exact HC0.out); rintro e wi ⟨rfl, hb⟩; refine ⟨_, rfl, ?_⟩; have n_ := Aside0.mk (below_step (by repeat (first | (with_reducible first | exact HB2.out | apply below_alloc | apply pw_below_drewN | apply below_drew1) | exact HB2.out)) hb); clear HB2; have HB2 := n_; clear n_; clear hb; (try clear hzgb_0 hzgb_1); have hzgb_0 := (HB2.out.cell (World.block_lt_of_cell? w1 _ HCB0.out)).trans HCB0.out; have hzgb_1 := (HB2.out.cell (World.block_lt_of_cell? w1 _ HCB1.out)).trans HCB1.out) | ((with_reducible refine gate_callee (f := 57) rfl ?_); refine goesL_ (some 16) rfl rfl Try.func57 (by kernel_rfl) rfl #[.int .i64 a1] rfl (by (try simp only [List.map_toArray, List.map_cons, List.map_nil]); first | done | rfl) ?_; (with_reducible refine (impl_isPrime.calls k a1 false _ A2.out).mono ?_); rintro e w' ⟨rfl, ⟨nd, rfl⟩⟩; refine ⟨_, rfl, ?_⟩))
      go_ret2
      exact ⟨rfl, below_step HB.out (by repeat (first | (with_reducible first | exact HB2.out | apply below_alloc | apply pw_below_drewN | apply below_drew1) | exact HB2.out))⟩
    | true =>
      simp only [if_true] at H2
      by_cases hg : (1 ≤ a0_0 ∧ a0_0 ≤ 8) ∧ (3 ≤ a1 ∧ a1 ≤ 97)
      case neg => rw [if_neg hg] at H2; cases H2
      rw [if_pos hg] at H2
      obtain ⟨LF, A3_, H3⟩ := Option.bind_eq_some_iff.mp H2
      clear H2
      obtain ⟨rr, A4_, H4⟩ := Option.bind_eq_some_iff.mp H3
      clear H3
      simp only [Option.some.injEq, Prod.mk.injEq] at H4
      obtain ⟨e1_, e2_⟩ := H4
      subst e1_ e2_
      obtain ⟨m, hm⟩ : ∃ m : Nat, a0_0 = m := ⟨a0_0.toNat, by omega⟩
      subst hm
      rw [Int.toNat_natCast] at A3_
      have HM : Aside0 (1 ≤ m ∧ m ≤ 8) := ⟨by omega⟩
      have HP := Aside0.mk hg.2
      clear hg
      have A3 := Aside0.mk A3_
      have A4 := Aside0.mk A4_
      have HLL : Aside0 (LF.length = m) := ⟨by have h_ := rk.rows_len _ _ _ _ _ _ _ A3_; rw [h_, List.length_nil, Nat.zero_add]⟩
      clear A3_ A4_
      have hp0 : (a1 = 0) = False := eq_false (by have := HP.out; omega)
      have hp1 : (a1 == 0) = false := beq_eq_false_iff_ne.mpr (by have := HP.out; omega)
      go_enter Try.func21, Try.ntmps21
      go_wp2_with (first | ((with_reducible refine gate_dst (N := 2) rfl ?_); refine box_event ?hg (N := 2) ?hd (cs := #[.int .i64 (m : Int), .slice A0_1 l0_1.length c0_1]) (t := 26) ?hr ?_; (case hd => rfl); (case hg => rfl); (case hr => first | (go_simp; done) | (go_simp; rfl)); intro gb hg w1 hbox hb; have n_ := Aside0.mk (below_step (by repeat (first | (with_reducible first | exact HB.out | apply below_alloc | apply pw_below_drewN | apply below_drew1) | exact HB.out)) hb); clear HB; have HB := n_; clear n_; have HCB0 := Aside0.mk ((blk_cell hbox 0).trans rfl); have HCB1 := Aside0.mk ((blk_cell hbox 1).trans rfl); have HB2 := Aside0.mk (Below.refl w1.heap.size w1); have HRA := Aside0.mk (Kd.C_below HR0.out HB.out); clear hg hb; have hzgb_0 := (blk_cell hbox 0).trans rfl; have hzgb_1 := (blk_cell hbox 1).trans rfl; clear hbox) | ((with_reducible refine gate_callee (f := 47) rfl ?_); refine goesL_ (some 12) rfl rfl Try.func47 (by kernel_rfl) rfl #[.agg #[.int .i64 (m : Int), .slice A0_1 l0_1.length c0_1]] rfl (by (try simp only [List.map_toArray, List.map_cons, List.map_nil]); first | done | rfl) ?_; (with_reducible refine (impl_IsBraid.calls k (m : Int) _ _ l0_1 _ _ ?side1 ?side2 A1.out).mono ?_); (case side1 => repeat (first | exact (Kd.C_below HRA.out HB2.out) | (with_reducible refine Kd.C_alloc ?_ _) | (with_reducible refine Kd.C_drewN ?_ _) | (with_reducible refine Kd.C_drew ?_))); (case side2 => exact HC0.out); rintro e wi ⟨rfl, hb⟩; refine ⟨_, rfl, ?_⟩; have n_ := Aside0.mk (below_step (by repeat (first | (with_reducible first | exact HB2.out | apply below_alloc | apply pw_below_drewN | apply below_drew1) | exact HB2.out)) hb); clear HB2; have HB2 := n_; clear n_; clear hb; (try clear hzgb_0 hzgb_1); have hzgb_0 := (HB2.out.cell (World.block_lt_of_cell? w1 _ HCB0.out)).trans HCB0.out; have hzgb_1 := (HB2.out.cell (World.block_lt_of_cell? w1 _ HCB1.out)).trans HCB1.out) | ((with_reducible refine gate_callee (f := 57) rfl ?_); refine goesL_ (some 16) rfl rfl Try.func57 (by kernel_rfl) rfl #[.int .i64 a1] rfl (by (try simp only [List.map_toArray, List.map_cons, List.map_nil]); first | done | rfl) ?_; (with_reducible refine (impl_isPrime.calls k a1 true _ A2.out).mono ?_); rintro e w' ⟨rfl, ⟨nd, rfl⟩⟩; refine ⟨_, rfl, ?_⟩) | ((with_reducible refine gate_dst (N := 18) rfl ?_); refine Kd.S_lit (Kd.slice 2 (Kd.int .i64)) _ 22 ?hg (N := 18) ?hd (xs := ([] : List (List Int))) (inner := []) (ok := fun _ => True) (okp := fun _ => True) ?hr ?hp (fun _ hk => hk) trivial (Below.refl _ _) (Nat.le_refl _) (by simp) ?_; (case hd => rfl); (case hg => rfl); (case hr => first | (go_simp; done) | (go_simp; rfl)); (case hp => exact (Reps.none _ _)); intro v18 w2 ho3 hb hg_ hnew_; clear hg_ hnew_; have SL := Aside0.mk (Kd.S_lower ho3 (below_size (by repeat (first | (with_reducible first | exact HB2.out | apply below_alloc | apply pw_below_drewN | apply below_drew1) | exact HB2.out)))); have n_ := Aside0.mk (below_step (by repeat (first | (with_reducible first | exact HB2.out | apply below_alloc | apply pw_below_drewN | apply below_drew1) | exact HB2.out)) hb); clear HB2; have HB2 := n_; clear n_; clear hb ho3; (try clear hzgb_0 hzgb_1); have hzgb_0 := (HB2.out.cell (World.block_lt_of_cell? w1 _ HCB0.out)).trans HCB0.out; have hzgb_1 := (HB2.out.cell (World.block_lt_of_cell? w1 _ HCB1.out)).trans HCB1.out))
      go_loopg [6, 21] 30 (fun kq vo vx wr => ∃ (L : List (List Int)) (x : Int) (q : Nat), vx = .int .i64 x ∧ Aside0 (q < kq) ∧ Aside0 ((q : Int) + x = (m : Int) ∧ 0 ≤ x) ∧ Aside0 (L.length = x.toNat) ∧ Aside0 (rk.rows (fun u => impl_colour.f k l0_1 a1 u) a1 m q x L = some LF) ∧ Aside0 (Mx 2 22 wr w1.heap.size (fun _ => True) vo L) ∧ Aside0 (Below w1.heap.size w1 wr))
      case atStart => exact ⟨[], 0, m, (by first | rfl | (simp; done) | (simp [*]; done)), ⟨by have := HM.out; omega⟩, ⟨by omega⟩, ⟨rfl⟩, A3, ⟨(by (with_reducible repeat (first | apply Kd.S_alloc | apply Kd.S_drewN | apply Kd.S_drew)); exact SL.out)⟩, ⟨(by repeat (first | (with_reducible first | exact HB2.out | apply below_alloc | apply pw_below_drewN | apply below_drew1) | exact HB2.out))⟩⟩
      case round =>
        clear SL HB2 A3 hzgb_0 hzgb_1
        obtain ⟨L, x, q, rfl, HQ, HX, HL, HA, SL, HB2⟩ := hrel
        obtain ⟨wq, rfl⟩ : ∃ x, x = wr := ⟨_, rfl⟩
        (try clear hzgb_0 hzgb_1)
        have hzgb_0 := (HB2.out.cell (World.block_lt_of_cell? w1 _ HCB0.out)).trans HCB0.out
        have hzgb_1 := (HB2.out.cell (World.block_lt_of_cell? w1 _ HCB1.out)).trans HCB1.out
        cases gk with
        | zero => exact absurd HQ.out (Nat.not_lt_zero _)
        | succ k1 =>
        cases q with
        | zero =>
          have cxb : decide (x < (m : Int)) = false := decide_eq_false (by have := HX.out; omega)
          have HA := HA.out
          simp only [rk.rows, Option.some.injEq] at HA
          subst HA
          obtain ⟨gL, cL, e_, _, _, _⟩ := Kd.S_form SL.out (by rw [HLL.out]; have := HM.out; omega)
          subst e_
          try go_wp2
          (first | (rw [drewN_self wq]; generalize hq_ : World.drewN wq _ = w6) | (rw [drew_self wq]; generalize hq1_ : World.drew wq = w6; have hq_ : World.drewN wq 1 = w6 := hq1_; clear hq1_) | (rw [show wq = World.drewN wq 0 from rfl]; generalize hq_ : World.drewN wq 0 = w6))
          have n_ := Aside0.mk (Kd.S_at hq_ SL.out); clear SL; have SL := n_; clear n_
          have n_ := Aside0.mk (ar_below_at hq_ HB2.out); clear HB2; have HB2 := n_; clear n_
          clear hq_
          clear hzgb_0 hzgb_1
          have n_ := Aside0.mk (Kd.S_drew SL.out); clear SL; have SL := n_; clear n_
          have n_ := Aside0.mk (below_drew1 HB2.out); clear HB2; have HB2 := n_; clear n_
          (try clear hzgb_0 hzgb_1)
          have hzgb_0 := (HB2.out.cell (World.block_lt_of_cell? w1 _ HCB0.out)).trans HCB0.out
          have hzgb_1 := (HB2.out.cell (World.block_lt_of_cell? w1 _ HCB1.out)).trans HCB1.out
          clear hzgb_1
          refine start_ (n := 8) (S := fun w' => w'.cell? ⟨gb, 0, none⟩ = some (.int .i64 (m : Int))) (ds := []) #[false, false, false, false, false, false, false, false] (by kernel_rfl) rfl rfl hzgb_0 (fun hHeld => ?_)
          refine with_tabW impl_CountColourings.tab15 impl_CountColourings.bits15 (fun HT_ HW_ => ?_)
          generalize w6.drew = w7 at SL HB2 hzgb_0 hHeld ⊢
          refine pure_ (i := 0) (N := some 52) (v := ?_) (a' := ?_) #[true, false, false, false, false, false, false, false] rfl rfl (any_of HT_.out (by kernel_rfl)) (fun _ _ _ h => h) (Or.inl ⟨by rfl, ?_⟩) ?_ ?_
          rotate_left
          · intro w'
            go_simp
            with_reducible rfl
          rotate_left
          · simp only [Act.put, List.setIfInBounds_toArray, List.set_cons_zero, List.set_cons_succ, i64_w, i32_w]
            rfl
          refine pure_ (i := 2) (N := some 54) (v := ?_) (a' := ?_) #[true, false, true, false, false, false, false, false] rfl rfl (any_of HT_.out (by kernel_rfl)) (fun _ _ _ h => h) (Or.inl ⟨by rfl, ?_⟩) ?_ ?_
          rotate_left
          · intro w'
            go_simp
            with_reducible rfl
          rotate_left
          · simp only [Act.put, List.setIfInBounds_toArray, List.set_cons_zero, List.set_cons_succ, i64_w, i32_w]
            rfl
          refine pure_ (i := 3) (N := some 55) (v := ?_) (a' := ?_) #[true, false, true, true, false, false, false, false] rfl rfl (any_of HT_.out (by kernel_rfl)) (fun _ _ _ h => h) (Or.inl ⟨by rfl, ?_⟩) ?_ ?_
          rotate_left
          · intro w'
            go_simp
            with_reducible rfl
          rotate_left
          · simp only [Act.put, List.setIfInBounds_toArray, List.set_cons_zero, List.set_cons_succ, i64_w, i32_w]
            rfl
          refine take_ (i := 1) (N := some 53) (v := ?_) (a' := ?_) #[true, true, true, true, false, false, false, false] rfl rfl (take_ofW HT_.out HW_.out (by kernel_rfl)) (fun _ _ _ h => h) (Or.inl ⟨by rfl, ?_⟩) hHeld ?_ ?_
          rotate_left
          · rintro w' s0
            go_simp
            with_reducible rfl
          rotate_left
          · simp only [Act.put, List.setIfInBounds_toArray, List.set_cons_zero, List.set_cons_succ, i64_w, i32_w]
            rfl
          refine one_ (i := 4) (N := some 56) #[true, true, true, true, true, false, false, false] rfl rfl (one_of HT_.out (by kernel_rfl)) (by decide) (fun K hK => ?_)
          refine goes_ Try.func59 (by kernel_rfl) rfl #[.slice (some ⟨gL, 0, none⟩) L.length cL, .int .i64 a1] (by rfl) rfl rfl (by (try simp only [List.map_toArray, List.map_cons, List.map_nil]); first | done | rfl) ?_
          refine (impl_rankModulo.calls k gL cL L a1 rr w1 _ ?sideS ?sideB A4.out).mono ?_
          (case sideS => exact (by (with_reducible repeat (first | apply Kd.S_alloc | apply Kd.S_drewN | apply Kd.S_drew)); exact SL.out))
          (case sideB => exact (by repeat (first | (with_reducible first | exact HB2.out | apply below_alloc | apply pw_below_drewN | apply below_drew1) | exact HB2.out)))
          rintro e wf ⟨rfl, hb⟩
          refine ⟨_, rfl, ?_⟩
          have k0_ : wf.cell? ⟨gb, 0, none⟩ = some (.int .i64 (m : Int)) := (hb.cell (World.block_lt_of_cell? w1 _ HCB0.out)).trans HCB0.out
          clear HB2 SL hzgb_0 hHeld
          have HB2 := Aside0.mk hb
          clear hb
          refine hK.out _ _ k0_ (fun hHeld => ?_)
          clear hK K
          have hzgb_0 := k0_
          clear k0_
          refine norm_ (a' := ?_) ?_ ?_
          rotate_left
          · show Act.put _ (some 56) _ = _
            simp only [Act.put, List.setIfInBounds_toArray, List.set_cons_zero, List.set_cons_succ, i64_w, i32_w]
            rfl
          refine pure_ (i := 5) (N := some 57) (v := ?_) (a' := ?_) #[true, true, true, true, true, true, false, false] rfl rfl (any_of HT_.out (by kernel_rfl)) (fun _ _ _ h => h) (Or.inl ⟨by rfl, ?_⟩) ?_ ?_
          rotate_left
          · intro w'
            go_simp
            with_reducible rfl
          rotate_left
          · simp only [Act.put, List.setIfInBounds_toArray, List.set_cons_zero, List.set_cons_succ, i64_w, i32_w]
            rfl
          refine pure_ (i := 6) (N := some 4) (v := ?_) (a' := ?_) #[true, true, true, true, true, true, true, false] rfl rfl (any_of HT_.out (by kernel_rfl)) (fun _ _ _ h => h) (Or.inl ⟨by rfl, ?_⟩) ?_ ?_
          rotate_left
          · intro w'
            go_simp
            with_reducible rfl
          rotate_left
          · simp only [Act.put, List.setIfInBounds_toArray, List.set_cons_zero, List.set_cons_succ, i64_w, i32_w]
            rfl
          refine pure_ (i := 7) (N := some 5) (v := ?_) (a' := ?_) #[true, true, true, true, true, true, true, true] rfl rfl (any_of HT_.out (by kernel_rfl)) (fun _ _ _ h => h) (Or.inl ⟨by rfl, ?_⟩) ?_ ?_
          rotate_left
          · intro w'
            go_simp
            with_reducible rfl
          rotate_left
          · simp only [Act.put, List.setIfInBounds_toArray, List.set_cons_zero, List.set_cons_succ, i64_w, i32_w]
            rfl
          refine done_ (done_of HT_.out (by kernel_rfl)) ?_
          (try go_wp2)
          go_ret2
          exact ⟨rfl, below_step HB.out (by repeat (first | (with_reducible first | exact HB2.out | apply below_alloc | apply pw_below_drewN | apply below_drew1) | exact HB2.out))⟩
        | succ q =>
          have hx0 : 0 ≤ x := HX.out.2
          have hx1 : x < (m : Int) := by have := HX.out; omega
          have cxb : decide (x < (m : Int)) = true := decide_eq_true hx1
          have ppx : (0 ≤ x) = True := eq_true hx0
          have qqx : (x < (m : Int)) = True := eq_true hx1
          have HX0 := Aside0.mk hx0
          have HX1 := Aside0.mk hx1
          clear hx0 hx1
          have HA := HA.out
          unfold rk.rows at HA
          obtain ⟨own, A5_, HA1⟩ := Option.bind_eq_some_iff.mp HA
          clear HA
          have A5 := Aside0.mk A5_
          clear A5_
          by_cases hol : own.length = m
          case neg => rw [if_neg hol] at HA1; cases HA1
          rw [if_pos hol] at HA1
          have HOL := Aside0.mk hol
          clear hol
          have HA := Aside0.mk HA1
          clear HA1
          have HB3 := Aside0.mk (Below.refl wq.heap.size wq)
          obtain ⟨UU, hUU⟩ : ∃ z, ((List.replicate m (0 : Int)).set x.toNat 1) = z := ⟨_, rfl⟩
          rw [hUU] at A5
          have HUL : Aside0 (UU.length = m) := ⟨by rw [← hUU, List.length_set, List.length_replicate]⟩
          have HUU := Aside0.mk hUU
          clear hUU
          obtain ⟨RW, hRW⟩ : ∃ z, own.set x.toNat (Int.tmod (wrap64 (wrap64 (rd own x + a1) - 1)) a1) = z := ⟨_, rfl⟩
          rw [hRW] at HA
          have HRL : Aside0 (RW.length = m) := ⟨by rw [← hRW, List.length_set]; exact HOL.out⟩
          have HRW : Aside0 (own.set x.toNat (Int.tmod (wrap64 (wrap64 (rdOf 0 own x + a1) - 1)) a1) = RW) := ⟨hRW⟩
          clear hRW
          go_wp2_with (first | ((with_reducible refine gate_dst (N := 26) rfl ?_); refine Kd.R_make (Kd.int .i64) _ 2 rfl (N := 26) rfl 22 _ _ rfl (m : Int) rfl rfl Try.underlying22 (.int .i64 0) 8 info2 rfl (by decide) (by omega) 0 (ok := fun _ => True) (okp := fun _ => True) rfl (fun _ hk => hk) trivial (by have := HM.out; omega) (by have := HM.out; omega) (Below.refl _ _) (Nat.le_refl _) ?_; intro vU w3 ho hb hg_ hnew_; clear hg_ hnew_; rw [Int.toNat_natCast] at ho; obtain ⟨gU, cU, eU, _, _, _, _⟩ := Kd.R_form ho (by rw [List.length_replicate]; have := HM.out; omega); rw [List.length_replicate] at eU; subst eU; have RU := Aside0.mk (Kd.R_lower ho (below_size (by repeat (first | (with_reducible first | exact HB3.out | apply below_alloc | apply pw_below_drewN | apply below_drew1) | exact HB3.out)))); have GU := Aside0.mk (Kd.R_base RU.out gU rfl); have n_ := Aside0.mk (below_step (by repeat (first | (with_reducible first | exact HB3.out | apply below_alloc | apply pw_below_drewN | apply below_drew1) | exact HB3.out)) hb); clear HB3; have HB3 := n_; clear n_; clear hb ho; obtain ⟨hxu, hfu⟩ := Kd.R_celln 0 RU.out x HX0.out HX1.out) | ((with_reducible refine gate_store (t := 2) (p := 29) rfl ?_); (first | (rw [drewN_self w3]; generalize hq_ : World.drewN w3 _ = w4) | (rw [drew_self w3]; generalize hq1_ : World.drew w3 = w4; have hq_ : World.drewN w3 1 = w4 := hq1_; clear hq1_) | (rw [show w3 = World.drewN w3 0 from rfl]; generalize hq_ : World.drewN w3 0 = w4)); have n_ := Aside0.mk (Kd.R_at hq_ RU.out); clear RU; have RU := n_; clear n_; have n_ := Aside0.mk (ar_below_at hq_ HB3.out); clear HB3; have HB3 := n_; clear n_; clear hq_; clear hxu hfu; obtain ⟨hxu, hfu⟩ := Kd.R_celln 0 RU.out x HX0.out HX1.out; have HB0 := HB3; have HPU := Kd.R_putg RU.out x (1); refine store_event (t := 2) (p := 29) (v := ?vo_RU) (w1 := (w4.setCell ⟨gU, (x : Int).toNat, none⟩ (.int .i64 (1)))) ?hg ?ho ?hn ?hr ?_; (case ho => rfl); (case hg => rfl); (case hn => rfl); (case hr => first | (go_simp; done) | (go_simp; rfl)); intro w5 hw; have n_ : Aside0 (Kd.R (Kd.int .i64) 2 w5 wq.heap.size (fun _ => True) (.slice (some ⟨gU, 0, none⟩) m cU) UU) := ⟨by rw [hw, ← HUU.out]; exact HPU.1⟩; clear RU; have RU := n_; clear n_; clear HB3; have HB3 : Aside0 (Below wq.heap.size wq w5) := ⟨by rw [hw]; exact below_set HB0.out GU.out⟩; clear HB0 hw HPU hxu hfu; (try clear hzgb_0 hzgb_1); have HB4 := below_step HB2.out HB3.out; have hzgb_0 := (HB4.cell (World.block_lt_of_cell? w1 _ HCB0.out)).trans HCB0.out; have hzgb_1 := (HB4.cell (World.block_lt_of_cell? w1 _ HCB1.out)).trans HCB1.out; clear HB4) | ((with_reducible refine gate_callee (f := 58) rfl ?_); refine goesL_ (some 34) rfl rfl Try.func58 (by kernel_rfl) rfl #[.slice A0_1 l0_1.length c0_1, .int .i64 a1, .slice (some ⟨gU, 0, none⟩) UU.length cU] rfl (by rw [HUL.out]; (try simp only [List.map_toArray, List.map_cons, List.map_nil]); first | done | rfl) ?_; (with_reducible refine (impl_colour.calls k _ _ l0_1 a1 _ _ UU own _ ?side1 ?side2 ?side3 ?side4 A5.out).mono ?_); (case side1 => repeat (first | exact (Kd.C_below HRA.out (below_step HB2.out HB3.out)) | (with_reducible refine Kd.C_alloc ?_ _) | (with_reducible refine Kd.C_drewN ?_ _) | (with_reducible refine Kd.C_drew ?_))); (case side2 => exact HC0.out); (case side3 => have h_ := (Kd.R_reads' RU.out).2.2; first | exact h_ | exact Kd.C_drewN h_ _ | exact Kd.C_drew h_); (case side4 => rw [HUL.out]; exact (Kd.R_reads' RU.out).2.1); rintro e w6 ⟨vO, rfl, ho0, hb⟩; refine ⟨_, rfl, ?_⟩; obtain ⟨gO, cO, eO, _, _, _, _⟩ := Kd.R_form ho0 (by rw [HOL.out]; have := HM.out; omega); rw [HOL.out] at eO; subst eO; have RO := Aside0.mk (Kd.R_lower ho0 (below_size (by repeat (first | (with_reducible first | exact HB3.out | apply below_alloc | apply pw_below_drewN | apply below_drew1) | exact HB3.out)))); have GO := Aside0.mk (Kd.R_base RO.out gO rfl); have n_ := Aside0.mk (below_step (by repeat (first | (with_reducible first | exact HB3.out | apply below_alloc | apply pw_below_drewN | apply below_drew1) | exact HB3.out)) hb); clear HB3; have HB3 := n_; clear n_; clear hb ho0 RU GU; obtain ⟨hxo, hfo⟩ := Kd.R_celln 0 RO.out x HX0.out HX1.out) | ((with_reducible refine gate_store (t := 2) (p := 46) rfl ?_); (first | (rw [drewN_self w6]; generalize hq_ : World.drewN w6 _ = w7) | (rw [drew_self w6]; generalize hq1_ : World.drew w6 = w7; have hq_ : World.drewN w6 1 = w7 := hq1_; clear hq1_) | (rw [show w6 = World.drewN w6 0 from rfl]; generalize hq_ : World.drewN w6 0 = w7)); have n_ := Aside0.mk (Kd.R_at hq_ RO.out); clear RO; have RO := n_; clear n_; have n_ := Aside0.mk (ar_below_at hq_ HB3.out); clear HB3; have HB3 := n_; clear n_; clear hq_; clear hxo hfo; obtain ⟨hxo, hfo⟩ := Kd.R_celln 0 RO.out x HX0.out HX1.out; have HB0 := HB3; have HPU := Kd.R_putg RO.out x (Int.tmod (wrap64 (wrap64 (rdOf 0 own x + a1) - 1)) a1); refine store_event (t := 2) (p := 46) (v := ?vo_RO) (w1 := (w7.setCell ⟨gO, (x : Int).toNat, none⟩ (.int .i64 (Int.tmod (wrap64 (wrap64 (rdOf 0 own x + a1) - 1)) a1)))) ?hg ?ho ?hn ?hr ?_; (case ho => rfl); (case hg => rfl); (case hn => rfl); (case hr => first | (go_simp; done) | (go_simp; rfl)); intro w8 hw; have n_ : Aside0 (Kd.R (Kd.int .i64) 2 w8 wq.heap.size (fun _ => True) (.slice (some ⟨gO, 0, none⟩) m cO) RW) := ⟨by rw [hw, ← HRW.out]; exact HPU.1⟩; clear RO; have RO := n_; clear n_; clear HB3; have HB3 : Aside0 (Below wq.heap.size wq w8) := ⟨by rw [hw]; exact below_set HB0.out GO.out⟩; clear HB0 hw HPU hxo hfo; have n_ := Aside0.mk (Kd.S_mono (ok' := fun k_ => some k_ ≠ (.slice (some ⟨gO, 0, none⟩) m cO : Value).ownBlock) (Kd.S_bound SL.out) (fun k_ hk_ e_ => Nat.not_le.2 hk_.2.2.1 (Kd.R_base RO.out k_ e_.symm))); have n2_ := Aside0.mk (Kd.S_below n_.out HB3.out); clear SL n_; have SL := n2_; clear n2_; have n_ := Aside0.mk (Kd.R_lower RO.out (below_size HB2.out)); clear RO; have RO := n_; clear n_; have n_ := Aside0.mk (below_step HB2.out HB3.out); clear HB2; have HB2 := n_; clear n_; clear HB3 GO; skip) | ((with_reducible refine gate_builtin (b := .append) (xs := #[.tmp 47, .tmp 49]) rfl ?_); at_builtin; refine Kd.S_append (Kd.slice 2 (Kd.int .i64)) (w0 := w1) w1.heap.size rfl (.tmp 47) (.tmp 49) 35 22 (.slice none 0 0) 24 rfl Try.underlying35 infoRows rfl (by decide) (by omega) u6 L RW [(.slice (some ⟨gO, 0, none⟩) m cO : Value)] (fun _ => True) (fun k_ => some k_ = (.slice (some ⟨gO, 0, none⟩) m cO : Value).ownBlock) rfl rfl ?aP (fun k_ hk_ => ((Kd.R_apart' RO.out (Kd.S_typed SL.out) (by decide))).1 k_ hk_.symm) ?aF ?aO ?aB ?aS ?aL ?_; (case aP => exact Kd.M_row (Kd.R_mono (Kd.R_tight rfl (Kd.R_apart' RO.out (Kd.S_typed SL.out) (by decide))) (fun _ h_ => h_))); (case aB => exact (by repeat (first | (with_reducible first | exact HB2.out | apply below_alloc | apply pw_below_drewN | apply below_drew1) | exact HB2.out))); (case aF => exact (fun k_ hk => trivial)); (case aO => exact (by (with_reducible repeat (first | apply Kd.S_alloc | apply Kd.S_drewN | apply Kd.S_drew)); exact Kd.S_mono SL.out (fun k_ hk => ⟨trivial, fun e_ => hk e_⟩))); (case aS => exact (below_size (by repeat (first | (with_reducible first | exact HB2.out | apply below_alloc | apply pw_below_drewN | apply below_drew1) | exact HB2.out)))); (case aL => have := HL.out; have := HX0.out; have := HX1.out; have := HM.out; omega); intro v7_ w9 ho hb hg hat; clear SL RO HB2; have SL := Aside0.mk ho; have HB2 := Aside0.mk hb; clear ho hb hg hat))
          go_roundg k1
          case measure => omega
          case rel =>
            have HW := Aside0.mk (show wrap64 (x + 1) = x + 1 by have := HX0.out; have := HX1.out; have := HM.out; unfold wrap64; omega)
            exact ⟨L ++ [RW], wrap64 (x + 1), q, (by first | rfl | (simp; done) | (simp [*]; done)), ⟨by have := HQ.out; omega⟩, ⟨by have := HX.out; rw [HW.out]; omega⟩, ⟨by rw [HW.out, List.length_append, HL.out, List.length_singleton]; have := HX0.out; omega⟩, ⟨by rw [HW.out]; exact HA.out⟩, ⟨(by (with_reducible repeat (first | apply Kd.S_alloc | apply Kd.S_drewN | apply Kd.S_drew)); exact SL.out)⟩, ⟨(by repeat (first | (with_reducible first | exact HB2.out | apply below_alloc | apply pw_below_drewN | apply below_drew1) | exact HB2.out))⟩⟩


end Go.Proofs.Ytcbomfkimohlfaa.MFnExactCountColourings
