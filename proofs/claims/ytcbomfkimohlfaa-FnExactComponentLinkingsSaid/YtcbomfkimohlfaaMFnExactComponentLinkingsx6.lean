-- Walks of the functions that a law reaches, one after the other: plain functions, and that the machine's calls come to what they tell (wip/tools/myprint.py of this repo).
import Derived.Test.YtcbomfkimohlfaaMFnExactComponentLinkingsx0
import Derived.Test.YtcbomfkimohlfaaMFnExactComponentLinkingsx4
import Derived.Test.YtcbomfkimohlfaaMFnExactComponentLinkingsx5
import Derived.Test.YtcbomfkimohlfaaLibArr
import Derived.Test.YtcbomfkimohlfaaLibMx
import Derived.Test.YtcbomfkimohlfaaLibCr
namespace Go.Proofs.Ytcbomfkimohlfaa.MFnExactComponentLinkings
open Go.RowKit Go.Proofs.YtcbomfkimohlfaaW.PrintWords Go.Proofs.YtcbomfkimohlfaaW.PrintLast Go.Proofs.YtcbomfkimohlfaaW.PrintMore
open Go.Proofs.Ytcbomfkimohlfaa.LibCr
open Go.Proofs.Ytcbomfkimohlfaa.LibMx
open Go.Proofs.Ytcbomfkimohlfaa.LibArr
attribute [local go_sem] max2_int min2_int max_two min_two max_three min_three max_four min_four   -- for this text's walks alone
set_option linter.unusedVariables false
set_option linter.unusedSimpArgs false

/-! ### impl_CrossingsOf: function 67 -/
set_option maxHeartbeats 8000000 in
set_option maxRecDepth 100000 in
theorem cr_sign (z : Int) (hz : 1 ≤ cr.K z ∧ cr.K z ≤ 7) (w : World) : Calls Try.prog 49 #[.int .i64 z] w fun e w' => e = .returned (.int .i64 (cr.sg z)) ∧ Drawn0 w w' := by
 have hz0 : z ≠ 0 := fun h => by subst h; simp [cr.K] at hz
 unfold cr.sg
 by_cases c2 : z > 0
 ·have c2b0 : decide (0 < z) = true := decide_eq_true c2
  rw [if_neg (by omega)]
  clear c2 hz
  go_enter Try.func49, Try.ntmps49
  go_wp2
  go_ret
  exact ⟨by first | rfl | (simp; done) | (simp [*]; done), by repeat (first | exact Drawn0.refl _ | apply Drawn0.step)⟩
 ·have c2b0 : decide (0 < z) = false := decide_eq_false c2
  rw [if_pos (by omega)]
  clear c2 hz
  go_enter Try.func49, Try.ntmps49
  go_wp2
  go_ret
  exact ⟨by first | rfl | (simp; done) | (simp [*]; done), by repeat (first | exact Drawn0.refl _ | apply Drawn0.step)⟩
def crt.T0 : Bool × List (List Nat × List Nat) := (true, [([], []), ([], []), ([0, 1], [0, 1]), ([2], [2]), ([], []), ([3, 4], [3, 4]), ([5], [5]), ([], []), ([7], [7]), ([6, 8], [6, 8]), ([3, 4, 0, 1, 2, 3, 4, 5, 6, 7, 8, 9], [3, 4]), ([10, 9, 8, 0, 1, 2, 3, 4, 5, 6, 7, 8, 9], [9, 10])])
def crt.B0 : List Nat := [0, 0, 3, 7, 0, 31, 63, 0, 128, 511, 1023, 2047]
theorem crt.tab0 : rtab .any (opsOf Try.f95 0) = crt.T0 := by kernel_rfl
theorem crt.bits0 : waitsOk crt.T0.2 crt.B0 = true := by kernel_rfl
def crt.T1 : Bool × List (List Nat × List Nat) := (true, [([], []), ([], []), ([0, 1], [0, 1]), ([2], [2]), ([], []), ([3, 4], [3, 4]), ([5], [5]), ([], []), ([7], [7]), ([6, 8], [6, 8]), ([3, 4, 0, 1, 2, 3, 4, 5, 6, 7, 8, 9], [3, 4]), ([10, 9, 8, 0, 1, 2, 3, 4, 5, 6, 7, 8, 9], [9, 10])])
def crt.B1 : List Nat := [0, 0, 3, 7, 0, 31, 63, 0, 128, 511, 1023, 2047]
theorem crt.tab1 : rtab .any (opsOf Try.f95 1) = crt.T1 := by kernel_rfl
theorem crt.bits1 : waitsOk crt.T1.2 crt.B1 = true := by kernel_rfl
set_option maxHeartbeats 8000000 in
set_option maxRecDepth 100000 in
theorem cr_tell (x y z : Int) (hz : 1 ≤ cr.K z ∧ cr.K z ≤ 7) (gp gL cL n : Nat) (L : List (List Int)) (w0 W : World) (hp : (W).heap[gp]? = some (.cells #[.slice (some ⟨gL, 0, none⟩) n cL] 35 (0, 0))) (hs : Mx 2 22 W w0.heap.size (fun k_ => k_ < gp) (.slice (some ⟨gL, 0, none⟩) n cL) L) (hq : iv.Sq n L) (hx : 0 ≤ x ∧ x < n) (hy : 0 ≤ y ∧ y < n) (hB : Below w0.heap.size w0 W) :
  Calls Try.prog 95 #[.int .i64 x, .int .i64 y, .int .i64 z, .pointer (some ⟨gp, 0, none⟩)] W fun e W' => e = .returned (.tuple #[]) ∧ Mx 2 22 W' w0.heap.size (fun k_ => k_ < gp) (.slice (some ⟨gL, 0, none⟩) n cL) (cr.adR (cr.adR L x y (cr.sg z)) y x (cr.sg z)) ∧ Kept W W' (fun k_ => k_ < gp) ∧ Below w0.heap.size w0 W' := by
 have SL := Aside0.mk hs
 have PT := Aside0.mk hp
 have HB := Aside0.mk hB
 have HK := Aside0.mk (Kept.refl W (fun k_ => k_ < gp))
 have HSL := Aside0.mk hq
 have HX := Aside0.mk hx
 have HY := Aside0.mk hy
 have HZ := Aside0.mk hz
 clear hs hp hB hq
 have ppx : (0 ≤ x) = True := eq_true hx.1
 have qqx : (x < (n : Int)) = True := eq_true hx.2
 have ppy : (0 ≤ y) = True := eq_true hy.1
 have qqy : (y < (n : Int)) = True := eq_true hy.2
 have HM : Aside0 (0 < n) := ⟨by omega⟩
 clear hx hy hz
 go_enter Try.func95, Try.ntmps95
 try go_wp2
 (first | (rw [drewN_self W]; generalize hq_ : World.drewN W _ = w1) | (rw [drew_self W]; generalize hq1_ : World.drew W = w1; have hq_ : World.drewN W 1 = w1 := hq1_; clear hq1_) | (rw [show W = World.drewN W 0 from rfl]; generalize hq_ : World.drewN W 0 = w1))
 have n_ := Aside0.mk (Kd.S_at hq_ SL.out); clear SL; have SL := n_; clear n_
 have n_ := Aside0.mk (ar_blk_at hq_ PT.out); clear PT; have PT := n_; clear n_
 have n_ := Aside0.mk (ar_below_at hq_ HB.out); clear HB; have HB := n_; clear n_
 have n_ := Aside0.mk ((by rw [← hq_]; exact Kept.drewN HK.out _ : Kept W w1 (fun k_ => k_ < gp))); clear HK; have HK := n_; clear n_
 clear hq_
 have n_ := Aside0.mk (Kd.S_drew SL.out); clear SL; have SL := n_; clear n_
 have n_ := Aside0.mk (blk_drew PT.out); clear PT; have PT := n_; clear n_
 have n_ := Aside0.mk (below_drew1 HB.out); clear HB; have HB := n_; clear n_
 have n_ := Aside0.mk (Kept.drew HK.out); clear HK; have HK := n_; clear n_
 have hzp := (blk_cell PT.out 0).trans rfl
 obtain ⟨grA, crA, hzA, hfA_, hbA_, hkA_, hnA_, hcA_, _⟩ := mx_atm (m := n) SL.out x HX.out.1 HX.out.2 (HSL.out.at _ HX.out.1 HX.out.2) HM.out
 obtain ⟨hvA0, hfA0⟩ := hcA_ y HY.out.1 HY.out.2
 clear hfA_ hbA_ hkA_ hnA_ hcA_
 refine start_ (n := 12) (S := fun w' => w'.cell? ⟨gp, 0, none⟩ = some (.slice (some ⟨gL, 0, none⟩) n cL) ∧ w'.cell? ⟨gL, (x).toNat, none⟩ = some (.slice (some ⟨grA, 0, none⟩) n crA) ∧ w'.cell? ⟨grA, (y).toNat, none⟩ = some (.int .i64 (iv.gt (L) x y)) ∧ w'.frozen? ⟨grA, (y).toNat, none⟩ = false) (ds := [11]) #[false, false, false, false, false, false, false, false, false, false, false, false] (by kernel_rfl) rfl rfl ⟨hzp, hzA, hvA0, hfA0⟩ (fun hHeld => ?_)
 refine with_tabW crt.tab0 crt.bits0 (fun HT_ HW_ => ?_)
 generalize w1.drew = w2 at SL PT HB HK hzp hzA hvA0 hfA0 hHeld ⊢
 refine pure_ (i := 1) (N := some 8) (v := ?_) (a' := ?_) #[false, true, false, false, false, false, false, false, false, false, false, false] rfl rfl (any_of HT_.out (by kernel_rfl)) (fun _ _ _ h => h) (Or.inl ⟨by rfl, ?_⟩) ?_ ?_
 rotate_left
 ·intro w'
  go_simp
  with_reducible rfl
 rotate_left
 ·simp only [Act.put, List.setIfInBounds_toArray, List.set_cons_zero, List.set_cons_succ, i64_w, i32_w]
  rfl
 refine pure_ (i := 4) (N := some 11) (v := ?_) (a' := ?_) #[false, true, false, false, true, false, false, false, false, false, false, false] rfl rfl (any_of HT_.out (by kernel_rfl)) (fun _ _ _ h => h) (Or.inl ⟨by rfl, ?_⟩) ?_ ?_
 rotate_left
 ·intro w'
  go_simp
  with_reducible rfl
 rotate_left
 ·simp only [Act.put, List.setIfInBounds_toArray, List.set_cons_zero, List.set_cons_succ, i64_w, i32_w]
  rfl
 refine pure_ (i := 7) (N := some 14) (v := ?_) (a' := ?_) #[false, true, false, false, true, false, false, true, false, false, false, false] rfl rfl (any_of HT_.out (by kernel_rfl)) (fun _ _ _ h => h) (Or.inl ⟨by rfl, ?_⟩) ?_ ?_
 rotate_left
 ·intro w'
  go_simp
  with_reducible rfl
 rotate_left
 ·simp only [Act.put, List.setIfInBounds_toArray, List.set_cons_zero, List.set_cons_succ, i64_w, i32_w]
  rfl
 refine take_ (i := 0) (N := some 7) (v := ?_) (a' := ?_) #[true, true, false, false, true, false, false, true, false, false, false, false] rfl rfl (take_ofW HT_.out HW_.out (by kernel_rfl)) (fun _ _ _ h => h) (Or.inl ⟨by rfl, ?_⟩) hHeld ?_ ?_
 rotate_left
 ·rintro w' ⟨s0, s1, s2, s3⟩
  go_simp
  with_reducible rfl
 rotate_left
 ·simp only [Act.put, List.setIfInBounds_toArray, List.set_cons_zero, List.set_cons_succ, i64_w, i32_w]
  rfl
 refine pure_ (i := 2) (N := some 9) (v := ?_) (a' := ?_) #[true, true, true, false, true, false, false, true, false, false, false, false] rfl rfl (any_of HT_.out (by kernel_rfl)) (fun _ _ _ h => h) (Or.inl ⟨by rfl, ?_⟩) ?_ ?_
 rotate_left
 ·intro w'
  go_simp
  with_reducible rfl
 rotate_left
 ·simp only [Act.put, List.setIfInBounds_toArray, List.set_cons_zero, List.set_cons_succ, i64_w, i32_w]
  rfl
 refine take_ (i := 3) (N := some 10) (v := ?_) (a' := ?_) #[true, true, true, true, true, false, false, true, false, false, false, false] rfl rfl (take_ofW HT_.out HW_.out (by kernel_rfl)) (fun _ _ _ h => h) (Or.inl ⟨by rfl, ?_⟩) hHeld ?_ ?_
 rotate_left
 ·rintro w' ⟨s0, s1, s2, s3⟩
  go_simp
  with_reducible rfl
 rotate_left
 ·simp only [Act.put, List.setIfInBounds_toArray, List.set_cons_zero, List.set_cons_succ, i64_w, i32_w]
  rfl
 refine pure_ (i := 5) (N := some 12) (v := ?_) (a' := ?_) #[true, true, true, true, true, true, false, true, false, false, false, false] rfl rfl (any_of HT_.out (by kernel_rfl)) (fun _ _ _ h => h) (Or.inl ⟨by rfl, ?_⟩) ?_ ?_
 rotate_left
 ·intro w'
  go_simp
  with_reducible rfl
 rotate_left
 ·simp only [Act.put, List.setIfInBounds_toArray, List.set_cons_zero, List.set_cons_succ, i64_w, i32_w]
  rfl
 refine take_ (i := 6) (N := some 13) (v := ?_) (a' := ?_) #[true, true, true, true, true, true, true, true, false, false, false, false] rfl rfl (take_ofW HT_.out HW_.out (by kernel_rfl)) (fun _ _ _ h => h) (Or.inl ⟨by rfl, ?_⟩) hHeld ?_ ?_
 rotate_left
 ·rintro w' ⟨s0, s1, s2, s3⟩
  go_simp
  with_reducible rfl
 rotate_left
 ·simp only [Act.put, List.setIfInBounds_toArray, List.set_cons_zero, List.set_cons_succ, i64_w, i32_w]
  rfl
 refine one_ (i := 8) (N := some 15) #[true, true, true, true, true, true, true, true, true, false, false, false] rfl rfl (one_of HT_.out (by kernel_rfl)) (by decide) (fun K hK => ?_)
 refine goes_ Try.func49 (by kernel_rfl) rfl #[.int .i64 z] (by rfl) rfl rfl (by (try simp only [List.map_toArray, List.map_cons, List.map_nil]); first | done | rfl) ?_
 refine (cr_sign z HZ.out _).mono ?_
 rintro e wf ⟨rfl, ⟨nd, rfl⟩⟩
 refine ⟨_, rfl, ?_⟩
 have m0_ := Aside0.mk (Kd.S_drewN SL.out nd)
 have m1_ := Aside0.mk (blk_drewN PT.out nd)
 have m2_ := Aside0.mk (pw_below_drewN HB.out nd)
 have m3_ := Aside0.mk (Kept.drewN HK.out nd)
 have k0_ : (World.drewN w2 nd).cell? ⟨gp, 0, none⟩ = some (.slice (some ⟨gL, 0, none⟩) n cL) := hzp
 have k1_ : (World.drewN w2 nd).cell? ⟨gL, (x).toNat, none⟩ = some (.slice (some ⟨grA, 0, none⟩) n crA) := hzA
 have k2_ : (World.drewN w2 nd).cell? ⟨grA, (y).toNat, none⟩ = some (.int .i64 (iv.gt (L) x y)) := hvA0
 have k3_ : (World.drewN w2 nd).frozen? ⟨grA, (y).toNat, none⟩ = false := hfA0
 clear SL PT HB HK hzp hzA hvA0 hfA0 hHeld
 generalize World.drewN w2 nd = w2 at m0_ m1_ m2_ m3_ k0_ k1_ k2_ k3_ ⊢
 have SL := m0_
 have PT := m1_
 have HB := m2_
 have HK := m3_
 clear m0_ m1_ m2_ m3_
 refine hK.out _ _ ⟨k0_, k1_, k2_, k3_⟩ (fun hHeld => ?_)
 clear hK K
 have hzp := k0_
 have hzA := k1_
 have hvA0 := k2_
 have hfA0 := k3_
 clear k0_ k1_ k2_ k3_
 refine norm_ (a' := ?_) ?_ ?_
 rotate_left
 ·show Act.put _ (some 15) _ = _
  simp only [Act.put, List.setIfInBounds_toArray, List.set_cons_zero, List.set_cons_succ, i64_w, i32_w]
  rfl
 refine pure_ (i := 9) (N := some 16) (v := ?_) (a' := ?_) #[true, true, true, true, true, true, true, true, true, true, false, false] rfl rfl (any_of HT_.out (by kernel_rfl)) (fun _ _ _ h => h) (Or.inl ⟨by rfl, ?_⟩) ?_ ?_
 rotate_left
 ·intro w'
  go_simp
  with_reducible rfl
 rotate_left
 ·simp only [Act.put, List.setIfInBounds_toArray, List.set_cons_zero, List.set_cons_succ, i64_w, i32_w]
  rfl
 refine pure_ (i := 10) (N := some 17) (v := ?_) (a' := ?_) #[true, true, true, true, true, true, true, true, true, true, true, false] rfl rfl (any_of HT_.out (by kernel_rfl)) (fun _ _ _ h => h) (Or.inl ⟨by rfl, ?_⟩) ?_ ?_
 rotate_left
 ·intro w'
  go_simp
  with_reducible rfl
 rotate_left
 ·simp only [Act.put, List.setIfInBounds_toArray, List.set_cons_zero, List.set_cons_succ, i64_w, i32_w]
  rfl
 refine last_ (i := 11) (N := none) #[true, true, true, true, true, true, true, true, true, true, true, true] rfl rfl (one_of HT_.out (by kernel_rfl)) (by decide) (fun K hK => ?_)
 refine skip_ (w1 := ?_) (by rfl) rfl ?_ ?_
 rotate_left
 ·first | (go_simp; done) | (go_simp; rfl)
 refine hK.out _ _ ?_
 clear hK K
 refine done_ (done_of HT_.out (by kernel_rfl)) ?_
 obtain ⟨hst, hok_, hbs_⟩ := mx_store SL.out x HX.out.1 HX.out.2 (HSL.out.at _ HX.out.1 HX.out.2) HM.out hzA y (wrap64 (iv.gt (L) x y + cr.sg z)) HY.out.1 HY.out.2
 have n0_ : Aside0 (Mx 2 22 (World.setCell w2 ⟨grA, (y).toNat, none⟩ (.int .i64 (wrap64 (iv.gt (L) x y + cr.sg z)))) w0.heap.size (fun k_ => k_ < gp) (.slice (some ⟨gL, 0, none⟩) n cL) (cr.adR (L) x y (cr.sg z))) := ⟨hst⟩
 have hk_ : Kept w2 (World.setCell w2 ⟨grA, (y).toNat, none⟩ (.int .i64 (wrap64 (iv.gt (L) x y + cr.sg z)))) (fun k_ => k_ < gp) := Kept.setCell (S := fun k_ => k_ < gp) (Kept.refl _ _) (p := ⟨grA, _, none⟩) (Or.inl hok_) _
 have n1_ := Aside0.mk (blk_kept PT.out hk_ (Nat.lt_irrefl gp))
 have n2_ : Aside0 (Below w0.heap.size w0 (World.setCell w2 ⟨grA, (y).toNat, none⟩ (.int .i64 (wrap64 (iv.gt (L) x y + cr.sg z))))) := ⟨below_set HB.out hbs_⟩
 have n3_ : Aside0 (Kept W (World.setCell w2 ⟨grA, (y).toNat, none⟩ (.int .i64 (wrap64 (iv.gt (L) x y + cr.sg z)))) (fun k_ => k_ < gp)) := ⟨Kept.setCell HK.out (Or.inl hok_) _⟩
 have n4_ : Aside0 (iv.Sq n (cr.adR (L) x y (cr.sg z))) := ⟨cr.adR_Sq HSL.out _ _ _ HX.out.1 HX.out.2⟩
 clear SL PT HB HK HSL hst hok_ hbs_ hk_ hzp hzA hvA0 hfA0 hHeld HT_ HW_
 generalize (World.setCell w2 ⟨grA, (y).toNat, none⟩ (.int .i64 (wrap64 (iv.gt (L) x y + cr.sg z)))) = w3 at n0_ n1_ n2_ n3_ ⊢
 have SL := n0_
 have PT := n1_
 have HB := n2_
 have HK := n3_
 have HSL := n4_
 clear n0_ n1_ n2_ n3_ n4_
 try go_wp2
 (first | (rw [drewN_self w3]; generalize hq_ : World.drewN w3 _ = w4) | (rw [drew_self w3]; generalize hq1_ : World.drew w3 = w4; have hq_ : World.drewN w3 1 = w4 := hq1_; clear hq1_) | (rw [show w3 = World.drewN w3 0 from rfl]; generalize hq_ : World.drewN w3 0 = w4))
 have n_ := Aside0.mk (Kd.S_at hq_ SL.out); clear SL; have SL := n_; clear n_
 have n_ := Aside0.mk (ar_blk_at hq_ PT.out); clear PT; have PT := n_; clear n_
 have n_ := Aside0.mk (ar_below_at hq_ HB.out); clear HB; have HB := n_; clear n_
 have n_ := Aside0.mk ((by rw [← hq_]; exact Kept.drewN HK.out _ : Kept W w4 (fun k_ => k_ < gp))); clear HK; have HK := n_; clear n_
 clear hq_
 have n_ := Aside0.mk (Kd.S_drew SL.out); clear SL; have SL := n_; clear n_
 have n_ := Aside0.mk (blk_drew PT.out); clear PT; have PT := n_; clear n_
 have n_ := Aside0.mk (below_drew1 HB.out); clear HB; have HB := n_; clear n_
 have n_ := Aside0.mk (Kept.drew HK.out); clear HK; have HK := n_; clear n_
 have hzp := (blk_cell PT.out 0).trans rfl
 obtain ⟨grA, crA, hzA, hfA_, hbA_, hkA_, hnA_, hcA_, _⟩ := mx_atm (m := n) SL.out y HY.out.1 HY.out.2 (HSL.out.at _ HY.out.1 HY.out.2) HM.out
 obtain ⟨hvA0, hfA0⟩ := hcA_ x HX.out.1 HX.out.2
 clear hfA_ hbA_ hkA_ hnA_ hcA_
 refine start_ (n := 12) (S := fun w' => w'.cell? ⟨gp, 0, none⟩ = some (.slice (some ⟨gL, 0, none⟩) n cL) ∧ w'.cell? ⟨gL, (y).toNat, none⟩ = some (.slice (some ⟨grA, 0, none⟩) n crA) ∧ w'.cell? ⟨grA, (x).toNat, none⟩ = some (.int .i64 (iv.gt (cr.adR L x y (cr.sg z)) y x)) ∧ w'.frozen? ⟨grA, (x).toNat, none⟩ = false) (ds := [11]) #[false, false, false, false, false, false, false, false, false, false, false, false] (by kernel_rfl) rfl rfl ⟨hzp, hzA, hvA0, hfA0⟩ (fun hHeld => ?_)
 refine with_tabW crt.tab1 crt.bits1 (fun HT_ HW_ => ?_)
 generalize w4.drew = w5 at SL PT HB HK hzp hzA hvA0 hfA0 hHeld ⊢
 refine pure_ (i := 1) (N := some 19) (v := ?_) (a' := ?_) #[false, true, false, false, false, false, false, false, false, false, false, false] rfl rfl (any_of HT_.out (by kernel_rfl)) (fun _ _ _ h => h) (Or.inl ⟨by rfl, ?_⟩) ?_ ?_
 rotate_left
 ·intro w'
  go_simp
  with_reducible rfl
 rotate_left
 ·simp only [Act.put, List.setIfInBounds_toArray, List.set_cons_zero, List.set_cons_succ, i64_w, i32_w]
  rfl
 refine pure_ (i := 4) (N := some 22) (v := ?_) (a' := ?_) #[false, true, false, false, true, false, false, false, false, false, false, false] rfl rfl (any_of HT_.out (by kernel_rfl)) (fun _ _ _ h => h) (Or.inl ⟨by rfl, ?_⟩) ?_ ?_
 rotate_left
 ·intro w'
  go_simp
  with_reducible rfl
 rotate_left
 ·simp only [Act.put, List.setIfInBounds_toArray, List.set_cons_zero, List.set_cons_succ, i64_w, i32_w]
  rfl
 refine pure_ (i := 7) (N := some 25) (v := ?_) (a' := ?_) #[false, true, false, false, true, false, false, true, false, false, false, false] rfl rfl (any_of HT_.out (by kernel_rfl)) (fun _ _ _ h => h) (Or.inl ⟨by rfl, ?_⟩) ?_ ?_
 rotate_left
 ·intro w'
  go_simp
  with_reducible rfl
 rotate_left
 ·simp only [Act.put, List.setIfInBounds_toArray, List.set_cons_zero, List.set_cons_succ, i64_w, i32_w]
  rfl
 refine take_ (i := 0) (N := some 18) (v := ?_) (a' := ?_) #[true, true, false, false, true, false, false, true, false, false, false, false] rfl rfl (take_ofW HT_.out HW_.out (by kernel_rfl)) (fun _ _ _ h => h) (Or.inl ⟨by rfl, ?_⟩) hHeld ?_ ?_
 rotate_left
 ·rintro w' ⟨s0, s1, s2, s3⟩
  go_simp
  with_reducible rfl
 rotate_left
 ·simp only [Act.put, List.setIfInBounds_toArray, List.set_cons_zero, List.set_cons_succ, i64_w, i32_w]
  rfl
 refine pure_ (i := 2) (N := some 20) (v := ?_) (a' := ?_) #[true, true, true, false, true, false, false, true, false, false, false, false] rfl rfl (any_of HT_.out (by kernel_rfl)) (fun _ _ _ h => h) (Or.inl ⟨by rfl, ?_⟩) ?_ ?_
 rotate_left
 ·intro w'
  go_simp
  with_reducible rfl
 rotate_left
 ·simp only [Act.put, List.setIfInBounds_toArray, List.set_cons_zero, List.set_cons_succ, i64_w, i32_w]
  rfl
 refine take_ (i := 3) (N := some 21) (v := ?_) (a' := ?_) #[true, true, true, true, true, false, false, true, false, false, false, false] rfl rfl (take_ofW HT_.out HW_.out (by kernel_rfl)) (fun _ _ _ h => h) (Or.inl ⟨by rfl, ?_⟩) hHeld ?_ ?_
 rotate_left
 ·rintro w' ⟨s0, s1, s2, s3⟩
  go_simp
  with_reducible rfl
 rotate_left
 ·simp only [Act.put, List.setIfInBounds_toArray, List.set_cons_zero, List.set_cons_succ, i64_w, i32_w]
  rfl
 refine pure_ (i := 5) (N := some 23) (v := ?_) (a' := ?_) #[true, true, true, true, true, true, false, true, false, false, false, false] rfl rfl (any_of HT_.out (by kernel_rfl)) (fun _ _ _ h => h) (Or.inl ⟨by rfl, ?_⟩) ?_ ?_
 rotate_left
 ·intro w'
  go_simp
  with_reducible rfl
 rotate_left
 ·simp only [Act.put, List.setIfInBounds_toArray, List.set_cons_zero, List.set_cons_succ, i64_w, i32_w]
  rfl
 refine take_ (i := 6) (N := some 24) (v := ?_) (a' := ?_) #[true, true, true, true, true, true, true, true, false, false, false, false] rfl rfl (take_ofW HT_.out HW_.out (by kernel_rfl)) (fun _ _ _ h => h) (Or.inl ⟨by rfl, ?_⟩) hHeld ?_ ?_
 rotate_left
 ·rintro w' ⟨s0, s1, s2, s3⟩
  go_simp
  with_reducible rfl
 rotate_left
 ·simp only [Act.put, List.setIfInBounds_toArray, List.set_cons_zero, List.set_cons_succ, i64_w, i32_w]
  rfl
 refine one_ (i := 8) (N := some 26) #[true, true, true, true, true, true, true, true, true, false, false, false] rfl rfl (one_of HT_.out (by kernel_rfl)) (by decide) (fun K hK => ?_)
 refine goes_ Try.func49 (by kernel_rfl) rfl #[.int .i64 z] (by rfl) rfl rfl (by (try simp only [List.map_toArray, List.map_cons, List.map_nil]); first | done | rfl) ?_
 refine (cr_sign z HZ.out _).mono ?_
 rintro e wf ⟨rfl, ⟨nd, rfl⟩⟩
 refine ⟨_, rfl, ?_⟩
 have m0_ := Aside0.mk (Kd.S_drewN SL.out nd)
 have m1_ := Aside0.mk (blk_drewN PT.out nd)
 have m2_ := Aside0.mk (pw_below_drewN HB.out nd)
 have m3_ := Aside0.mk (Kept.drewN HK.out nd)
 have k0_ : (World.drewN w5 nd).cell? ⟨gp, 0, none⟩ = some (.slice (some ⟨gL, 0, none⟩) n cL) := hzp
 have k1_ : (World.drewN w5 nd).cell? ⟨gL, (y).toNat, none⟩ = some (.slice (some ⟨grA, 0, none⟩) n crA) := hzA
 have k2_ : (World.drewN w5 nd).cell? ⟨grA, (x).toNat, none⟩ = some (.int .i64 (iv.gt (cr.adR L x y (cr.sg z)) y x)) := hvA0
 have k3_ : (World.drewN w5 nd).frozen? ⟨grA, (x).toNat, none⟩ = false := hfA0
 clear SL PT HB HK hzp hzA hvA0 hfA0 hHeld
 generalize World.drewN w5 nd = w5 at m0_ m1_ m2_ m3_ k0_ k1_ k2_ k3_ ⊢
 have SL := m0_
 have PT := m1_
 have HB := m2_
 have HK := m3_
 clear m0_ m1_ m2_ m3_
 refine hK.out _ _ ⟨k0_, k1_, k2_, k3_⟩ (fun hHeld => ?_)
 clear hK K
 have hzp := k0_
 have hzA := k1_
 have hvA0 := k2_
 have hfA0 := k3_
 clear k0_ k1_ k2_ k3_
 refine norm_ (a' := ?_) ?_ ?_
 rotate_left
 ·show Act.put _ (some 26) _ = _
  simp only [Act.put, List.setIfInBounds_toArray, List.set_cons_zero, List.set_cons_succ, i64_w, i32_w]
  rfl
 refine pure_ (i := 9) (N := some 27) (v := ?_) (a' := ?_) #[true, true, true, true, true, true, true, true, true, true, false, false] rfl rfl (any_of HT_.out (by kernel_rfl)) (fun _ _ _ h => h) (Or.inl ⟨by rfl, ?_⟩) ?_ ?_
 rotate_left
 ·intro w'
  go_simp
  with_reducible rfl
 rotate_left
 ·simp only [Act.put, List.setIfInBounds_toArray, List.set_cons_zero, List.set_cons_succ, i64_w, i32_w]
  rfl
 refine pure_ (i := 10) (N := some 28) (v := ?_) (a' := ?_) #[true, true, true, true, true, true, true, true, true, true, true, false] rfl rfl (any_of HT_.out (by kernel_rfl)) (fun _ _ _ h => h) (Or.inl ⟨by rfl, ?_⟩) ?_ ?_
 rotate_left
 ·intro w'
  go_simp
  with_reducible rfl
 rotate_left
 ·simp only [Act.put, List.setIfInBounds_toArray, List.set_cons_zero, List.set_cons_succ, i64_w, i32_w]
  rfl
 refine last_ (i := 11) (N := none) #[true, true, true, true, true, true, true, true, true, true, true, true] rfl rfl (one_of HT_.out (by kernel_rfl)) (by decide) (fun K hK => ?_)
 refine skip_ (w1 := ?_) (by rfl) rfl ?_ ?_
 rotate_left
 ·first | (go_simp; done) | (go_simp; rfl)
 refine hK.out _ _ ?_
 clear hK K
 refine done_ (done_of HT_.out (by kernel_rfl)) ?_
 obtain ⟨hst, hok_, hbs_⟩ := mx_store SL.out y HY.out.1 HY.out.2 (HSL.out.at _ HY.out.1 HY.out.2) HM.out hzA x (wrap64 (iv.gt (cr.adR L x y (cr.sg z)) y x + cr.sg z)) HX.out.1 HX.out.2
 have n0_ : Aside0 (Mx 2 22 (World.setCell w5 ⟨grA, (x).toNat, none⟩ (.int .i64 (wrap64 (iv.gt (cr.adR L x y (cr.sg z)) y x + cr.sg z)))) w0.heap.size (fun k_ => k_ < gp) (.slice (some ⟨gL, 0, none⟩) n cL) (cr.adR (cr.adR L x y (cr.sg z)) y x (cr.sg z))) := ⟨hst⟩
 have hk_ : Kept w5 (World.setCell w5 ⟨grA, (x).toNat, none⟩ (.int .i64 (wrap64 (iv.gt (cr.adR L x y (cr.sg z)) y x + cr.sg z)))) (fun k_ => k_ < gp) := Kept.setCell (S := fun k_ => k_ < gp) (Kept.refl _ _) (p := ⟨grA, _, none⟩) (Or.inl hok_) _
 have n1_ := Aside0.mk (blk_kept PT.out hk_ (Nat.lt_irrefl gp))
 have n2_ : Aside0 (Below w0.heap.size w0 (World.setCell w5 ⟨grA, (x).toNat, none⟩ (.int .i64 (wrap64 (iv.gt (cr.adR L x y (cr.sg z)) y x + cr.sg z))))) := ⟨below_set HB.out hbs_⟩
 have n3_ : Aside0 (Kept W (World.setCell w5 ⟨grA, (x).toNat, none⟩ (.int .i64 (wrap64 (iv.gt (cr.adR L x y (cr.sg z)) y x + cr.sg z)))) (fun k_ => k_ < gp)) := ⟨Kept.setCell HK.out (Or.inl hok_) _⟩
 have n4_ : Aside0 (iv.Sq n (cr.adR (cr.adR L x y (cr.sg z)) y x (cr.sg z))) := ⟨cr.adR_Sq HSL.out _ _ _ HY.out.1 HY.out.2⟩
 clear SL PT HB HK HSL hst hok_ hbs_ hk_ hzp hzA hvA0 hfA0 hHeld HT_ HW_
 generalize (World.setCell w5 ⟨grA, (x).toNat, none⟩ (.int .i64 (wrap64 (iv.gt (cr.adR L x y (cr.sg z)) y x + cr.sg z)))) = w6 at n0_ n1_ n2_ n3_ ⊢
 have SL := n0_
 have PT := n1_
 have HB := n2_
 have HK := n3_
 have HSL := n4_
 clear n0_ n1_ n2_ n3_ n4_
 try go_wp2
 go_end0
 exact ⟨rfl, (by (with_reducible repeat (first | apply Kd.S_alloc | apply Kd.S_drewN | apply Kd.S_drew)); exact SL.out), (by first | exact HK.out | exact Kept.drewN HK.out _ | exact Kept.drew HK.out), (by repeat (first | (with_reducible first | exact HB.out | apply below_alloc | apply pw_below_drewN | apply below_drew1) | exact HB.out))⟩
def crf.T6 : Bool × List (List Nat × List Nat) := (true, [([], []), ([], []), ([], []), ([2], [2]), ([1, 3], [1, 3]), ([4], [4]), ([], []), ([], []), ([6, 7], [6, 7]), ([8], [8]), ([], []), ([0, 5, 9, 10], [0, 5, 9, 10])])
def crf.B6 : List Nat := [0, 0, 0, 4, 14, 30, 0, 0, 192, 448, 0, 2047]
theorem crf.tab6 : rtab .any (opsOf Try.f76 6) = crf.T6 := by kernel_rfl
theorem crf.bits6 : waitsOk crf.T6.2 crf.B6 = true := by kernel_rfl
def crf.T7 : Bool × List (List Nat × List Nat) := (true, [([], []), ([], []), ([1], [1]), ([], []), ([], []), ([], []), ([], []), ([5, 6], [5, 6]), ([7], [7]), ([], []), ([], []), ([10], [10]), ([9, 11], [9, 11]), ([12], [12]), ([0, 2, 0, 1, 2, 5, 6, 7, 8, 13], [0, 2]), ([14, 8, 0, 1, 2, 5, 6, 7, 8, 13], [8, 14]), ([3, 4, 0, 1, 2, 3, 4, 5, 6, 7, 8, 9, 10, 11, 12, 13, 14, 15], [3, 4]), ([16, 13, 15, 0, 1, 2, 3, 4, 5, 6, 7, 8, 9, 10, 11, 12, 13, 14, 15], [13, 16])])
def crf.B7 : List Nat := [0, 0, 2, 0, 0, 0, 0, 96, 224, 0, 0, 1024, 3584, 7680, 16359, 32743, 65535, 131071]
theorem crf.tab7 : rtab .any (opsOf Try.f76 7) = crf.T7 := by kernel_rfl
theorem crf.bits7 : waitsOk crf.T7.2 crf.B7 = true := by kernel_rfl
set_option maxHeartbeats 8000000 in
set_option maxRecDepth 100000 in
theorem cr_follow (k n : Nat) (hn : 1 ≤ n ∧ n ≤ 8) (A1 : Option Addr) (c1 : Nat) (l1 : List Int) (hg : cr.goodN n l1) (gp gL cL : Nat) (L0 : List (List Int)) (xs0 : List Int) (h0 : impl_strandsOf.f k (n : Int) = some xs0) (hi : cr.InN n xs0) (w0 w : World) (hp : (w).heap[gp]? = some (.cells #[.slice (some ⟨gL, 0, none⟩) n cL] 35 (0, 0))) (hs : Mx 2 22 w w0.heap.size (fun k_ => k_ < gp) (.slice (some ⟨gL, 0, none⟩) n cL) L0) (hq : iv.Sq n L0) (hr1 : Kd.C (Kd.int .i64) w0 A1 l1.length l1) (hc1 : l1.length ≤ c1) (hB : Below w0.heap.size w0 w) :
  Calls Try.prog 76 #[.agg #[.int .i64 (n : Int), .slice A1 l1.length c1], .func (.func 95) #[] #[.pointer (some ⟨gp, 0, none⟩)]] w fun e w' => (∃ v, e = .returned v) ∧ Mx 2 22 w' w0.heap.size (fun k_ => k_ < gp) (.slice (some ⟨gL, 0, none⟩) n cL) (cr.runR l1 xs0 L0) ∧ (w').heap[gp]? = some (.cells #[.slice (some ⟨gL, 0, none⟩) n cL] 35 (0, 0)) ∧ Below w0.heap.size w0 w' := by
 have hu := Try.underlying26
 have SL := Aside0.mk hs
 have PT := Aside0.mk hp
 have HB := Aside0.mk hB
 have HSL := Aside0.mk hq
 have HG := Aside0.mk hg
 have HN := Aside0.mk hn
 have HR1 := Aside0.mk hr1
 have HC1 := Aside0.mk hc1
 have A0 := Aside0.mk h0
 have HXS := Aside0.mk hi
 have HGP := Aside0.mk (blk_lt hp)
 have HW0 := Aside0.mk hB.size
 obtain ⟨LF, hLF⟩ : ∃ z, cr.runR l1 xs0 L0 = z := ⟨_, rfl⟩
 rw [hLF]
 have HLF := Aside0.mk hLF
 clear hs hp hB hq hg hn hr1 hc1 h0 hi hLF
 go_enter Try.func76, Try.ntmps76
 go_wp2_with (first | ((with_reducible refine gate_dst (N := 2) rfl ?_); refine box_event ?hg (N := 2) ?hd (cs := #[.int .i64 (n : Int), .slice A1 l1.length c1]) (t := 26) ?hr ?_; (case hd => rfl); (case hg => rfl); (case hr => first | (go_simp; done) | (go_simp; rfl)); intro gb hg wb hbox hb; have GB : Aside0 (w.heap.size ≤ gb) := ⟨by rw [hg]; exact Nat.le_refl _⟩; have n_ := Aside0.mk (Kd.S_below (by (with_reducible repeat (first | apply Kd.S_alloc | apply Kd.S_drewN | apply Kd.S_drew)); exact SL.out) hb); clear SL; have SL := n_; clear n_; have n_ := Aside0.mk (blk_below (by (with_reducible repeat (first | refine blk_drewN ?_ _ | refine blk_drew ?_ | refine blk_alloc ?_ _)); exact PT.out) hb); clear PT; have PT := n_; clear n_; have n_ := Aside0.mk (below_step (by repeat (first | (with_reducible first | exact HB.out | apply below_alloc | apply pw_below_drewN | apply below_drew1) | exact HB.out)) hb); clear HB; have HB := n_; clear n_; have BKb := Aside0.mk hbox; have HWB := Aside0.mk hb.size; clear hg hb hbox; have hzgb_0 := (blk_cell BKb.out 0).trans rfl; have hzgb_1 := (blk_cell BKb.out 1).trans rfl) | ((with_reducible refine gate_callee (f := 99) rfl ?_); refine goesL_ (some 11) rfl rfl Try.func99 (by kernel_rfl) rfl #[.int .i64 (n : Int)] rfl (by (try simp only [List.map_toArray, List.map_cons, List.map_nil]); first | done | rfl) ?_; (with_reducible refine (impl_strandsOf.calls k (n : Int) xs0 _ A0.out).mono ?_); rintro e ws ⟨vA, rfl, ho0, hb⟩; refine ⟨_, rfl, ?_⟩; obtain ⟨gA, cA, eA, gbA_, _, _⟩ := Kd.R_form ho0 (by rw [HXS.out.1]; have := HN.out; omega); rw [HXS.out.1] at eA; subst eA; have XO := Aside0.mk (Kd.R_lower ho0 (Nat.le_trans HWB.out (Nat.le_refl _))); have GA := Aside0.mk (Kd.R_base XO.out gA rfl); have NAB : Aside0 (gA ≠ gb) := ⟨fun h_ => by have h2_ := blk_lt BKb.out; have h3_ := gbA_; rw [h_] at h3_; omega⟩; have n_ := Aside0.mk (Kd.S_below (by (with_reducible repeat (first | apply Kd.S_alloc | apply Kd.S_drewN | apply Kd.S_drew)); exact SL.out) hb); clear SL; have SL := n_; clear n_; have n_ := Aside0.mk (blk_below (by (with_reducible repeat (first | refine blk_drewN ?_ _ | refine blk_drew ?_ | refine blk_alloc ?_ _)); exact PT.out) hb); clear PT; have PT := n_; clear n_; have n_ := Aside0.mk (blk_below (by (with_reducible repeat (first | refine blk_drewN ?_ _ | refine blk_drew ?_ | refine blk_alloc ?_ _)); exact BKb.out) hb); clear BKb; have BKb := n_; clear n_; have n_ := Aside0.mk (below_step (by repeat (first | (with_reducible first | exact HB.out | apply below_alloc | apply pw_below_drewN | apply below_drew1) | exact HB.out)) hb); clear HB; have HB := n_; clear n_; clear hb ho0 gbA_; (try clear hzgb_0 hzgb_1); have hzgb_0 := (blk_cell BKb.out 0).trans rfl; have hzgb_1 := (blk_cell BKb.out 1).trans rfl))
 (try clear hzgb_0 hzgb_1)
 go_loopg [15] (l1.length + 1) (fun kq v15 wr => ∃ (i : Int) (q : Nat) (xs : List Int) (L : List (List Int)), v15 = .int .i64 i ∧ Aside0 (q < kq) ∧ Aside0 ((q : Int) + i = (l1.length : Int) ∧ 0 ≤ i) ∧ Aside0 (cr.runR (l1.drop i.toNat) xs L = LF) ∧ Aside0 (cr.InN n xs) ∧ Aside0 (iv.Sq n L) ∧ Aside0 (Kd.R (Kd.int .i64) 2 wr w.heap.size (fun _ => True) (.slice (some ⟨gA, 0, none⟩) n cA) xs) ∧ Aside0 ((wr).heap[gb]? = some (.cells #[.int .i64 (n : Int), .slice A1 l1.length c1] 26 (0, 0))) ∧ Aside0 ((wr).heap[gp]? = some (.cells #[.slice (some ⟨gL, 0, none⟩) n cL] 35 (0, 0))) ∧ Aside0 (Mx 2 22 wr w0.heap.size (fun k_ => k_ < gp) (.slice (some ⟨gL, 0, none⟩) n cL) L) ∧ Aside0 (Below w0.heap.size w0 wr))
 case atStart => exact ⟨0, l1.length, xs0, L0, (by first | rfl | (simp; done) | (simp [*]; done)), ⟨by omega⟩, ⟨by omega⟩, HLF, HXS, HSL, ⟨(by (with_reducible repeat (first | apply Kd.R_alloc | apply Kd.R_drewN | apply Kd.R_drew)); exact XO.out)⟩, ⟨(by (with_reducible repeat (first | refine blk_drewN ?_ _ | refine blk_drew ?_ | refine blk_alloc ?_ _)); exact BKb.out)⟩, ⟨(by (with_reducible repeat (first | refine blk_drewN ?_ _ | refine blk_drew ?_ | refine blk_alloc ?_ _)); exact PT.out)⟩, ⟨(by (with_reducible repeat (first | apply Kd.S_alloc | apply Kd.S_drewN | apply Kd.S_drew)); exact SL.out)⟩, ⟨(by repeat (first | (with_reducible first | exact HB.out | apply below_alloc | apply pw_below_drewN | apply below_drew1) | exact HB.out))⟩⟩
 case round =>
  clear XO BKb PT SL HB HLF HXS HSL
  obtain ⟨i, q, xs, L, rfl, HQ, HI, HA, HXS, HSL, XO, BKb, PT, SL, HB⟩ := hrel
  cases gk with
  | zero => exact absurd HQ.out (Nat.not_lt_zero _)
  | succ k1_ =>
  cases q with
  | zero =>
   have cib : decide (i < (l1.length : Int)) = false := decide_eq_false (by have := HI.out; omega)
   have HF : Aside0 (L = LF) := ⟨by have h_ := HA.out; rw [List.drop_of_length_le (by have := HI.out; omega)] at h_; exact h_⟩
   go_wp2
   go_ret
   rw [← HF.out]
   exact ⟨⟨_, rfl⟩, (by (with_reducible repeat (first | apply Kd.S_alloc | apply Kd.S_drewN | apply Kd.S_drew)); exact SL.out), (by (with_reducible repeat (first | refine blk_drewN ?_ _ | refine blk_drew ?_ | refine blk_alloc ?_ _)); exact PT.out), (by repeat (first | (with_reducible first | exact HB.out | apply below_alloc | apply pw_below_drewN | apply below_drew1) | exact HB.out))⟩
  | succ q =>
   have hi0 : 0 ≤ i := HI.out.2
   have hi1 : i < (l1.length : Int) := by have := HI.out; omega
   have cib : decide (i < (l1.length : Int)) = true := decide_eq_true hi1
   obtain ⟨ad, e1, hz⟩ := Kd.at_int HR1.out i hi0 hi1
   cases e1
   replace hz := (HB.out.cell (World.block_lt_of_cell? w0 _ hz)).trans hz
   have hkz := HG.out.1.at_ i hi0 hi1
   have hkn := HG.out.lt i hi0 hi1
   have HA1 : cr.runR (rd l1 i :: l1.drop (i + 1).toNat) xs L = LF := by rw [← cr.drop_cons l1 i hi0 hi1]; exact HA.out
   clear HA
   have ppi : (0 ≤ i) = True := eq_true hi0
   have qqi : (i < (l1.length : Int)) = True := eq_true hi1
   have HI0 := Aside0.mk hi0
   have HI1 := Aside0.mk hi1
   clear hi0 hi1
   obtain ⟨z, hzz⟩ : ∃ z, rd l1 i = z := ⟨_, rfl⟩
   rw [hzz] at hz hkz hkn HA1
   clear hzz
   have HKZ0 := Aside0.mk hkz
   obtain ⟨kz, hK⟩ : ∃ x, cr.K z = x := ⟨_, rfl⟩
   rw [hK] at hkz hkn
   have HKZ := Aside0.mk hkz
   have HKN := Aside0.mk hkn
   have HK := Aside0.mk hK
   have HA := Aside0.mk HA1
   have HSZ : Aside0 (impl_size.f z = some kz) := ⟨by unfold impl_size.f; rw [cr.mx_K HKZ0.out, HK.out]⟩
   clear hkz hK HA1 hkn
   go_wp2_with (first | ((with_reducible refine gate_callee (f := 50) rfl ?_); refine goesL_ (some 20) rfl rfl Try.func50 (by kernel_rfl) rfl #[.int .i64 z] rfl (by (try simp only [List.map_toArray, List.map_cons, List.map_nil]); first | done | rfl) ?_; (with_reducible refine (impl_size.calls z kz _ HSZ.out).mono ?_); rintro e w' ⟨rfl, ⟨nd, rfl⟩⟩; refine ⟨_, rfl, ?_⟩))
   clear hz
   (first | (rw [drewN_self wr]; generalize hq_ : World.drewN wr _ = w9) | (rw [drew_self wr]; generalize hq1_ : World.drew wr = w9; have hq_ : World.drewN wr 1 = w9 := hq1_; clear hq1_) | (rw [show wr = World.drewN wr 0 from rfl]; generalize hq_ : World.drewN wr 0 = w9))
   have n_ := Aside0.mk (Kd.S_at hq_ SL.out); clear SL; have SL := n_; clear n_
   have n_ := Aside0.mk (ar_blk_at hq_ PT.out); clear PT; have PT := n_; clear n_
   have n_ := Aside0.mk (ar_blk_at hq_ BKb.out); clear BKb; have BKb := n_; clear n_
   have n_ := Aside0.mk (Kd.R_at hq_ XO.out); clear XO; have XO := n_; clear n_
   have n_ := Aside0.mk (ar_below_at hq_ HB.out); clear HB; have HB := n_; clear n_
   clear hq_
   have n_ := Aside0.mk (Kd.S_drew SL.out); clear SL; have SL := n_; clear n_
   have n_ := Aside0.mk (blk_drew PT.out); clear PT; have PT := n_; clear n_
   have n_ := Aside0.mk (blk_drew BKb.out); clear BKb; have BKb := n_; clear n_
   have n_ := Aside0.mk (Kd.R_drew XO.out); clear XO; have XO := n_; clear n_
   have n_ := Aside0.mk (below_drew1 HB.out); clear HB; have HB := n_; clear n_
   obtain ⟨k1, hk1⟩ : ∃ x, wrap64 (kz - 1) = x := ⟨_, rfl⟩
   have HK1 : Aside0 (k1 = kz - 1) := ⟨by rw [← hk1]; have := HKZ.out; unfold wrap64; omega⟩
   have hk1w : (IntKind.i64.wrap (kz - 1)) = k1 := (i64_w _).trans hk1
   obtain ⟨x, hx⟩ : ∃ x, rd xs k1 = x := ⟨_, rfl⟩
   obtain ⟨y, hy⟩ : ∃ x, rd xs kz = x := ⟨_, rfl⟩
   have hk10 : 0 ≤ k1 := by have := HKZ.out; have := HK1.out; omega
   have hk11 : k1 < (n : Int) := by have := HKN.out; have := HK1.out; omega
   have hkz0 : 0 ≤ kz := by have := HKZ.out; omega
   have hkz1 : kz < (n : Int) := HKN.out
   have hx7 := HXS.out.at_ hk10 hk11
   have hy7 := HXS.out.at_ hkz0 hkz1
   rw [hx] at hx7
   rw [hy] at hy7
   have HX7 := Aside0.mk hx7
   have HY7 := Aside0.mk hy7
   obtain ⟨hz1, hf1⟩ := Kd.R_celln 0 XO.out k1 hk10 hk11
   obtain ⟨hz2, hf2⟩ := Kd.R_celln 0 XO.out kz hkz0 hkz1
   replace hz1 : (World.drew w9).cell? ⟨gA, k1.toNat, none⟩ = some (.int .i64 x) := by rw [← hx]; exact hz1
   replace hz2 : (World.drew w9).cell? ⟨gA, kz.toNat, none⟩ = some (.int .i64 y) := by rw [← hy]; exact hz2
   have pk0 : (0 ≤ k1) = True := eq_true hk10
   have pk1 : (k1 < (n : Int)) = True := eq_true hk11
   have pk2 : (0 ≤ kz) = True := eq_true hkz0
   have pk3 : (kz < (n : Int)) = True := eq_true hkz1
   have HXE := Aside0.mk hx
   have HYE := Aside0.mk hy
   have HKR := Aside0.mk (And.intro (And.intro hk10 hk11) (And.intro hkz0 hkz1))
   clear hk10 hk11 hkz0 hkz1 hx hy hx7 hy7 hf1 hf2
   refine start_ (n := 12) (S := fun w' => w'.cell? ⟨gA, k1.toNat, none⟩ = some (.int .i64 x) ∧ w'.cell? ⟨gA, kz.toNat, none⟩ = some (.int .i64 y)) (ds := [11]) #[false, false, false, false, false, false, false, false, false, false, false, false] (by kernel_rfl) rfl rfl ⟨hz1, hz2⟩ (fun hHeld => ?_)
   refine with_tabW crf.tab6 crf.bits6 (fun HT_ HW_ => ?_)
   generalize w9.drew = w10 at SL PT BKb XO HB hz1 hz2 hHeld ⊢
   refine pure_ (i := 0) (N := some 21) (v := ?_) (a' := ?_) #[true, false, false, false, false, false, false, false, false, false, false, false] rfl rfl (any_of HT_.out (by kernel_rfl)) (fun _ _ _ h => h) (Or.inl ⟨by rfl, ?_⟩) ?_ ?_
   rotate_left
   ·intro w'
    go_simp
    with_reducible rfl
   rotate_left
   ·simp only [Act.put, List.setIfInBounds_toArray, List.set_cons_zero, List.set_cons_succ, i64_w, i32_w]
    rfl
   refine pure_ (i := 1) (N := some 22) (v := ?_) (a' := ?_) #[true, true, false, false, false, false, false, false, false, false, false, false] rfl rfl (any_of HT_.out (by kernel_rfl)) (fun _ _ _ h => h) (Or.inl ⟨by rfl, ?_⟩) ?_ ?_
   rotate_left
   ·intro w'
    go_simp
    with_reducible rfl
   rotate_left
   ·simp only [Act.put, List.setIfInBounds_toArray, List.set_cons_zero, List.set_cons_succ, i64_w, i32_w]
    rfl
   refine pure_ (i := 2) (N := some 23) (v := ?_) (a' := ?_) #[true, true, true, false, false, false, false, false, false, false, false, false] rfl rfl (any_of HT_.out (by kernel_rfl)) (fun _ _ _ h => h) (Or.inl ⟨by rfl, ?_⟩) ?_ ?_
   rotate_left
   ·intro w'
    go_simp
    with_reducible rfl
   rotate_left
   ·simp only [Act.put, List.setIfInBounds_toArray, List.set_cons_zero, List.set_cons_succ, i64_w, i32_w]
    rfl
   refine pure_ (i := 3) (N := some 24) (v := ?_) (a' := ?_) #[true, true, true, true, false, false, false, false, false, false, false, false] rfl rfl (any_of HT_.out (by kernel_rfl)) (fun _ _ _ h => h) (Or.inl ⟨by rfl, ?_⟩) ?_ ?_
   rotate_left
   ·intro w'
    go_simp
    with_reducible rfl
   rotate_left
   ·simp only [Act.put, List.setIfInBounds_toArray, List.set_cons_zero, List.set_cons_succ, i64_w, i32_w]
    rfl
   refine pure_ (i := 4) (N := some 25) (v := ?_) (a' := ?_) #[true, true, true, true, true, false, false, false, false, false, false, false] rfl rfl (any_of HT_.out (by kernel_rfl)) (fun _ _ _ h => h) (Or.inl ⟨by rfl, ?_⟩) ?_ ?_
   rotate_left
   ·intro w'
    go_simp
    with_reducible rfl
   rotate_left
   ·simp only [Act.put, List.setIfInBounds_toArray, List.set_cons_zero, List.set_cons_succ, i64_w, i32_w]
    rfl
   refine pure_ (i := 6) (N := some 27) (v := ?_) (a' := ?_) #[true, true, true, true, true, false, true, false, false, false, false, false] rfl rfl (any_of HT_.out (by kernel_rfl)) (fun _ _ _ h => h) (Or.inl ⟨by rfl, ?_⟩) ?_ ?_
   rotate_left
   ·intro w'
    go_simp
    with_reducible rfl
   rotate_left
   ·simp only [Act.put, List.setIfInBounds_toArray, List.set_cons_zero, List.set_cons_succ, i64_w, i32_w]
    rfl
   refine pure_ (i := 7) (N := some 28) (v := ?_) (a' := ?_) #[true, true, true, true, true, false, true, true, false, false, false, false] rfl rfl (any_of HT_.out (by kernel_rfl)) (fun _ _ _ h => h) (Or.inl ⟨by rfl, ?_⟩) ?_ ?_
   rotate_left
   ·intro w'
    go_simp
    with_reducible rfl
   rotate_left
   ·simp only [Act.put, List.setIfInBounds_toArray, List.set_cons_zero, List.set_cons_succ, i64_w, i32_w]
    rfl
   refine pure_ (i := 8) (N := some 29) (v := ?_) (a' := ?_) #[true, true, true, true, true, false, true, true, true, false, false, false] rfl rfl (any_of HT_.out (by kernel_rfl)) (fun _ _ _ h => h) (Or.inl ⟨by rfl, ?_⟩) ?_ ?_
   rotate_left
   ·intro w'
    go_simp
    with_reducible rfl
   rotate_left
   ·simp only [Act.put, List.setIfInBounds_toArray, List.set_cons_zero, List.set_cons_succ, i64_w, i32_w]
    rfl
   refine pure_ (i := 10) (N := some 31) (v := ?_) (a' := ?_) #[true, true, true, true, true, false, true, true, true, false, true, false] rfl rfl (any_of HT_.out (by kernel_rfl)) (fun _ _ _ h => h) (Or.inl ⟨by rfl, ?_⟩) ?_ ?_
   rotate_left
   ·intro w'
    go_simp
    with_reducible rfl
   rotate_left
   ·simp only [Act.put, List.setIfInBounds_toArray, List.set_cons_zero, List.set_cons_succ, i64_w, i32_w]
    rfl
   refine take_ (i := 5) (N := some 26) (v := ?_) (a' := ?_) #[true, true, true, true, true, true, true, true, true, false, true, false] rfl rfl (take_ofW HT_.out HW_.out (by kernel_rfl)) (fun _ _ _ h => h) (Or.inl ⟨by rfl, ?_⟩) hHeld ?_ ?_
   rotate_left
   ·rintro w' ⟨s0, s1⟩
    go_simp
    with_reducible rfl
   rotate_left
   ·simp only [Act.put, List.setIfInBounds_toArray, List.set_cons_zero, List.set_cons_succ, i64_w, i32_w]
    rfl
   refine take_ (i := 9) (N := some 30) (v := ?_) (a' := ?_) #[true, true, true, true, true, true, true, true, true, true, true, false] rfl rfl (take_ofW HT_.out HW_.out (by kernel_rfl)) (fun _ _ _ h => h) (Or.inl ⟨by rfl, ?_⟩) hHeld ?_ ?_
   rotate_left
   ·rintro w' ⟨s0, s1⟩
    go_simp
    with_reducible rfl
   rotate_left
   ·simp only [Act.put, List.setIfInBounds_toArray, List.set_cons_zero, List.set_cons_succ, i64_w, i32_w]
    rfl
   refine last_ (i := 11) (N := some 32) #[true, true, true, true, true, true, true, true, true, true, true, true] rfl rfl (one_of HT_.out (by kernel_rfl)) (by decide) (fun K hK => ?_)
   refine call_ 95 #[.int .i64 x, .int .i64 y, .int .i64 z, .pointer (some ⟨gp, 0, none⟩)] (by rfl) rfl ?hrun_ ?_
   case hrun_ =>
    have he := enters_ Try.func95 (by kernel_rfl) rfl #[.int .i64 x, .int .i64 y, .int .i64 z, .pointer (some ⟨gp, 0, none⟩)] w10
    unfold execOp
    simp [resolve, Deferred.ofValue, invoke, Act.eval, he]
   refine (cr_tell x y z HKZ0.out gp gL cL n L w0 _ PT.out SL.out HSL.out HX7.out HY7.out HB.out).mono ?_
   rintro e wf ⟨rfl, hs_, hk_, hB_⟩
   refine ⟨_, rfl, ?_⟩
   have n0_ := Aside0.mk (Kd.R_mono (ok' := fun _ => True) (Kd.R_kept (ok := fun k_ => w.heap.size ≤ k_) (Kd.R_mono (Kd.R_bound XO.out) (fun k_ h_ => h_.2.1)) hk_ (fun k_ h_ hs2_ => by have h3_ := h_; have h4_ := hs2_; have h5_ := HGP.out; omega)) (fun _ _ => trivial))
   have n1_ := Aside0.mk (blk_kept BKb.out hk_ (fun hs2_ => by have h4_ := hs2_; have h5_ := HGP.out; have h6_ := GB.out; omega))
   have n2_ := Aside0.mk (blk_kept PT.out hk_ (Nat.lt_irrefl gp))
   clear XO BKb PT SL HB hz1 hz2 hHeld
   have XO := n0_
   have BKb := n1_
   have PT := n2_
   have SL := Aside0.mk hs_
   have HB := Aside0.mk hB_
   clear n0_ n1_ n2_ hs_ hk_ hB_
   refine hK.out _ _ ?_
   clear hK K
   refine norm_ (a' := ?_) ?_ ?_
   rotate_left
   ·show Act.put _ (some 32) _ = _
    simp only [Act.put, List.setIfInBounds_toArray, List.set_cons_zero, List.set_cons_succ, i64_w, i32_w]
    rfl
   refine done_ (done_of HT_.out (by kernel_rfl)) ?_
   clear HT_ HW_
   try go_wp2
   have n_ : Aside0 (iv.Sq n (cr.stR xs L z)) := ⟨cr.adR_Sq (cr.adR_Sq HSL.out _ _ _ (by rw [HK.out, ← HK1.out, HXE.out]; exact HX7.out.1) (by rw [HK.out, ← HK1.out, HXE.out]; exact HX7.out.2)) _ _ _ (by rw [HK.out, HYE.out]; exact HY7.out.1) (by rw [HK.out, HYE.out]; exact HY7.out.2)⟩
   clear HSL
   have HSL := n_
   clear n_
   have n_ : Aside0 (Mx 2 22 wf w0.heap.size (fun k_ => k_ < gp) (.slice (some ⟨gL, 0, none⟩) n cL) (cr.stR xs L z)) := ⟨by unfold cr.stR; rw [HK.out, ← HK1.out, HXE.out, HYE.out]; exact SL.out⟩
   clear SL
   have SL := n_
   clear n_
   (first | (rw [drewN_self wf]; generalize hq_ : World.drewN wf _ = w11) | (rw [drew_self wf]; generalize hq1_ : World.drew wf = w11; have hq_ : World.drewN wf 1 = w11 := hq1_; clear hq1_) | (rw [show wf = World.drewN wf 0 from rfl]; generalize hq_ : World.drewN wf 0 = w11))
   have n_ := Aside0.mk (Kd.S_at hq_ SL.out); clear SL; have SL := n_; clear n_
   have n_ := Aside0.mk (ar_blk_at hq_ PT.out); clear PT; have PT := n_; clear n_
   have n_ := Aside0.mk (ar_blk_at hq_ BKb.out); clear BKb; have BKb := n_; clear n_
   have n_ := Aside0.mk (Kd.R_at hq_ XO.out); clear XO; have XO := n_; clear n_
   have n_ := Aside0.mk (ar_below_at hq_ HB.out); clear HB; have HB := n_; clear n_
   clear hq_
   have n_ := Aside0.mk (Kd.S_drew SL.out); clear SL; have SL := n_; clear n_
   have n_ := Aside0.mk (blk_drew PT.out); clear PT; have PT := n_; clear n_
   have n_ := Aside0.mk (blk_drew BKb.out); clear BKb; have BKb := n_; clear n_
   have n_ := Aside0.mk (Kd.R_drew XO.out); clear XO; have XO := n_; clear n_
   have n_ := Aside0.mk (below_drew1 HB.out); clear HB; have HB := n_; clear n_
   obtain ⟨hz1, hf1⟩ := Kd.R_celln 0 XO.out k1 HKR.out.1.1 HKR.out.1.2
   obtain ⟨hz2, _⟩ := Kd.R_celln 0 XO.out kz HKR.out.2.1 HKR.out.2.2
   replace hz1 : (World.drew w11).cell? ⟨gA, k1.toNat, none⟩ = some (.int .i64 x) := by rw [← HXE.out]; exact hz1
   replace hz2 : (World.drew w11).cell? ⟨gA, kz.toNat, none⟩ = some (.int .i64 y) := by rw [← HYE.out]; exact hz2
   have HP1 := Kd.R_putn XO.out k1 y
   obtain ⟨hz3, hf3⟩ := Kd.R_celln 0 HP1 kz HKR.out.2.1 HKR.out.2.2
   have HP2 := Aside0.mk (Kd.R_putn HP1 kz x)
   clear HP1
   refine start_ (n := 18) (S := fun w' => w'.cell? ⟨gA, kz.toNat, none⟩ = some (.int .i64 y) ∧ w'.cell? ⟨gA, k1.toNat, none⟩ = some (.int .i64 x)) (ds := [15, 17]) #[false, false, false, false, false, false, false, false, false, false, false, false, false, false, false, false, false, false] (by kernel_rfl) rfl rfl ⟨hz2, hz1⟩ (fun hHeld => ?_)
   refine with_tabW crf.tab7 crf.bits7 (fun HT_ HW_ => ?_)
   generalize w11.drew = w12 at SL PT BKb XO HB HP2 hz1 hz2 hf1 hz3 hf3 hHeld ⊢
   refine pure_ (i := 0) (N := some 33) (v := ?_) (a' := ?_) #[true, false, false, false, false, false, false, false, false, false, false, false, false, false, false, false, false, false] rfl rfl (any_of HT_.out (by kernel_rfl)) (fun _ _ _ h => h) (Or.inl ⟨by rfl, ?_⟩) ?_ ?_
   rotate_left
   ·intro w'
    go_simp
    with_reducible rfl
   rotate_left
   ·simp only [Act.put, List.setIfInBounds_toArray, List.set_cons_zero, List.set_cons_succ, i64_w, i32_w]
    rfl
   refine pure_ (i := 1) (N := some 34) (v := ?_) (a' := ?_) #[true, true, false, false, false, false, false, false, false, false, false, false, false, false, false, false, false, false] rfl rfl (any_of HT_.out (by kernel_rfl)) (fun _ _ _ h => h) (Or.inl ⟨by rfl, ?_⟩) ?_ ?_
   rotate_left
   ·intro w'
    go_simp
    with_reducible rfl
   rotate_left
   ·simp only [Act.put, List.setIfInBounds_toArray, List.set_cons_zero, List.set_cons_succ, i64_w, i32_w]
    rfl
   refine pure_ (i := 2) (N := some 35) (v := ?_) (a' := ?_) #[true, true, true, false, false, false, false, false, false, false, false, false, false, false, false, false, false, false] rfl rfl (any_of HT_.out (by kernel_rfl)) (fun _ _ _ h => h) (Or.inl ⟨by rfl, ?_⟩) ?_ ?_
   rotate_left
   ·intro w'
    go_simp
    with_reducible rfl
   rotate_left
   ·simp only [Act.put, List.setIfInBounds_toArray, List.set_cons_zero, List.set_cons_succ, i64_w, i32_w]
    rfl
   refine pure_ (i := 3) (N := some 36) (v := ?_) (a' := ?_) #[true, true, true, true, false, false, false, false, false, false, false, false, false, false, false, false, false, false] rfl rfl (any_of HT_.out (by kernel_rfl)) (fun _ _ _ h => h) (Or.inl ⟨by rfl, ?_⟩) ?_ ?_
   rotate_left
   ·intro w'
    go_simp
    with_reducible rfl
   rotate_left
   ·simp only [Act.put, List.setIfInBounds_toArray, List.set_cons_zero, List.set_cons_succ, i64_w, i32_w]
    rfl
   refine pure_ (i := 4) (N := some 37) (v := ?_) (a' := ?_) #[true, true, true, true, true, false, false, false, false, false, false, false, false, false, false, false, false, false] rfl rfl (any_of HT_.out (by kernel_rfl)) (fun _ _ _ h => h) (Or.inl ⟨by rfl, ?_⟩) ?_ ?_
   rotate_left
   ·intro w'
    go_simp
    with_reducible rfl
   rotate_left
   ·simp only [Act.put, List.setIfInBounds_toArray, List.set_cons_zero, List.set_cons_succ, i64_w, i32_w]
    rfl
   refine pure_ (i := 5) (N := some 38) (v := ?_) (a' := ?_) #[true, true, true, true, true, true, false, false, false, false, false, false, false, false, false, false, false, false] rfl rfl (any_of HT_.out (by kernel_rfl)) (fun _ _ _ h => h) (Or.inl ⟨by rfl, ?_⟩) ?_ ?_
   rotate_left
   ·intro w'
    go_simp
    with_reducible rfl
   rotate_left
   ·simp only [Act.put, List.setIfInBounds_toArray, List.set_cons_zero, List.set_cons_succ, i64_w, i32_w]
    rfl
   refine pure_ (i := 6) (N := some 39) (v := ?_) (a' := ?_) #[true, true, true, true, true, true, true, false, false, false, false, false, false, false, false, false, false, false] rfl rfl (any_of HT_.out (by kernel_rfl)) (fun _ _ _ h => h) (Or.inl ⟨by rfl, ?_⟩) ?_ ?_
   rotate_left
   ·intro w'
    go_simp
    with_reducible rfl
   rotate_left
   ·simp only [Act.put, List.setIfInBounds_toArray, List.set_cons_zero, List.set_cons_succ, i64_w, i32_w]
    rfl
   refine pure_ (i := 7) (N := some 40) (v := ?_) (a' := ?_) #[true, true, true, true, true, true, true, true, false, false, false, false, false, false, false, false, false, false] rfl rfl (any_of HT_.out (by kernel_rfl)) (fun _ _ _ h => h) (Or.inl ⟨by rfl, ?_⟩) ?_ ?_
   rotate_left
   ·intro w'
    go_simp
    with_reducible rfl
   rotate_left
   ·simp only [Act.put, List.setIfInBounds_toArray, List.set_cons_zero, List.set_cons_succ, i64_w, i32_w]
    rfl
   refine pure_ (i := 9) (N := some 42) (v := ?_) (a' := ?_) #[true, true, true, true, true, true, true, true, false, true, false, false, false, false, false, false, false, false] rfl rfl (any_of HT_.out (by kernel_rfl)) (fun _ _ _ h => h) (Or.inl ⟨by rfl, ?_⟩) ?_ ?_
   rotate_left
   ·intro w'
    go_simp
    with_reducible rfl
   rotate_left
   ·simp only [Act.put, List.setIfInBounds_toArray, List.set_cons_zero, List.set_cons_succ, i64_w, i32_w]
    rfl
   refine pure_ (i := 10) (N := some 43) (v := ?_) (a' := ?_) #[true, true, true, true, true, true, true, true, false, true, true, false, false, false, false, false, false, false] rfl rfl (any_of HT_.out (by kernel_rfl)) (fun _ _ _ h => h) (Or.inl ⟨by rfl, ?_⟩) ?_ ?_
   rotate_left
   ·intro w'
    go_simp
    with_reducible rfl
   rotate_left
   ·simp only [Act.put, List.setIfInBounds_toArray, List.set_cons_zero, List.set_cons_succ, i64_w, i32_w]
    rfl
   refine pure_ (i := 11) (N := some 44) (v := ?_) (a' := ?_) #[true, true, true, true, true, true, true, true, false, true, true, true, false, false, false, false, false, false] rfl rfl (any_of HT_.out (by kernel_rfl)) (fun _ _ _ h => h) (Or.inl ⟨by rfl, ?_⟩) ?_ ?_
   rotate_left
   ·intro w'
    go_simp
    with_reducible rfl
   rotate_left
   ·simp only [Act.put, List.setIfInBounds_toArray, List.set_cons_zero, List.set_cons_succ, i64_w, i32_w]
    rfl
   refine pure_ (i := 12) (N := some 45) (v := ?_) (a' := ?_) #[true, true, true, true, true, true, true, true, false, true, true, true, true, false, false, false, false, false] rfl rfl (any_of HT_.out (by kernel_rfl)) (fun _ _ _ h => h) (Or.inl ⟨by rfl, ?_⟩) ?_ ?_
   rotate_left
   ·intro w'
    go_simp
    with_reducible rfl
   rotate_left
   ·simp only [Act.put, List.setIfInBounds_toArray, List.set_cons_zero, List.set_cons_succ, i64_w, i32_w]
    rfl
   refine take_ (i := 8) (N := some 41) (v := ?_) (a' := ?_) #[true, true, true, true, true, true, true, true, true, true, true, true, true, false, false, false, false, false] rfl rfl (take_ofW HT_.out HW_.out (by kernel_rfl)) (fun _ _ _ h => h) (Or.inl ⟨by rfl, ?_⟩) hHeld ?_ ?_
   rotate_left
   ·rintro w' ⟨s0, s1⟩
    go_simp
    with_reducible rfl
   rotate_left
   ·simp only [Act.put, List.setIfInBounds_toArray, List.set_cons_zero, List.set_cons_succ, i64_w, i32_w]
    rfl
   refine take_ (i := 13) (N := some 46) (v := ?_) (a' := ?_) #[true, true, true, true, true, true, true, true, true, true, true, true, true, true, false, false, false, false] rfl rfl (take_ofW HT_.out HW_.out (by kernel_rfl)) (fun _ _ _ h => h) (Or.inl ⟨by rfl, ?_⟩) hHeld ?_ ?_
   rotate_left
   ·rintro w' ⟨s0, s1⟩
    go_simp
    with_reducible rfl
   rotate_left
   ·simp only [Act.put, List.setIfInBounds_toArray, List.set_cons_zero, List.set_cons_succ, i64_w, i32_w]
    rfl
   refine pure_ (i := 14) (N := some 47) (v := ?_) (a' := ?_) #[true, true, true, true, true, true, true, true, true, true, true, true, true, true, true, false, false, false] rfl rfl (any_of HT_.out (by kernel_rfl)) (fun _ _ _ h => h) (Or.inl ⟨by rfl, ?_⟩) ?_ ?_
   rotate_left
   ·intro w'
    go_simp
    with_reducible rfl
   rotate_left
   ·simp only [Act.put, List.setIfInBounds_toArray, List.set_cons_zero, List.set_cons_succ, i64_w, i32_w]
    rfl
   refine last_ (i := 15) (N := none) #[true, true, true, true, true, true, true, true, true, true, true, true, true, true, true, true, false, false] rfl rfl (one_of HT_.out (by kernel_rfl)) (by decide) (fun K hK => ?_)
   refine skip_ (w1 := ?_) (by rfl) rfl ?_ ?_
   rotate_left
   ·first | (go_simp; done) | (go_simp; rfl)
   refine hK.out _ _ ?_
   clear hK K
   refine pure_ (i := 16) (N := some 48) (v := ?_) (a' := ?_) #[true, true, true, true, true, true, true, true, true, true, true, true, true, true, true, true, true, false] rfl rfl (any_of HT_.out (by kernel_rfl)) (fun _ _ _ h => h) (Or.inl ⟨by rfl, ?_⟩) ?_ ?_
   rotate_left
   ·intro w'
    go_simp
    with_reducible rfl
   rotate_left
   ·simp only [Act.put, List.setIfInBounds_toArray, List.set_cons_zero, List.set_cons_succ, i64_w, i32_w]
    rfl
   refine last_ (i := 17) (N := none) #[true, true, true, true, true, true, true, true, true, true, true, true, true, true, true, true, true, true] rfl rfl (one_of HT_.out (by kernel_rfl)) (by decide) (fun K hK => ?_)
   refine skip_ (w1 := ?_) (by rfl) rfl ?_ ?_
   rotate_left
   ·first | (go_simp; done) | (go_simp; rfl)
   refine hK.out _ _ ?_
   clear hK K
   refine done_ (done_of HT_.out (by kernel_rfl)) ?_
   have hk_ : Kept w12 ((World.setCell w12 ⟨gA, k1.toNat, none⟩ (.int .i64 y)).setCell ⟨gA, kz.toNat, none⟩ (.int .i64 x)) (fun k_ => k_ = gA) := Kept.setCell (S := fun k_ => k_ = gA) (Kept.setCell (S := fun k_ => k_ = gA) (Kept.refl _ _) (p := ⟨gA, _, none⟩) (Or.inl rfl) _) (p := ⟨gA, _, none⟩) (Or.inl rfl) _
   have n0_ : Aside0 (Kd.R (Kd.int .i64) 2 ((World.setCell w12 ⟨gA, k1.toNat, none⟩ (.int .i64 y)).setCell ⟨gA, kz.toNat, none⟩ (.int .i64 x)) w.heap.size (fun _ => True) (.slice (some ⟨gA, 0, none⟩) n cA) (cr.sw xs z)) := ⟨by unfold cr.sw; rw [HK.out, ← HK1.out, HXE.out, HYE.out]; exact HP2.out⟩
   have n1_ := Aside0.mk (blk_kept BKb.out hk_ (fun h_ => NAB.out h_.symm))
   have n2_ := Aside0.mk (blk_kept PT.out hk_ (fun h_ => by have h5_ := HGP.out; have h6_ := GA.out; have h7_ : gp = gA := h_; omega))
   have n3_ : Aside0 (Mx 2 22 ((World.setCell w12 ⟨gA, k1.toNat, none⟩ (.int .i64 y)).setCell ⟨gA, kz.toNat, none⟩ (.int .i64 x)) w0.heap.size (fun k_ => k_ < gp) (.slice (some ⟨gL, 0, none⟩) n cL) (cr.stR xs L z)) := ⟨Kd.S_kept SL.out hk_ (fun k_ h_ hs2_ => by have h3_ : k_ < gp := h_; have h4_ : k_ = gA := hs2_; have h5_ := HGP.out; have h6_ := GA.out; omega)⟩
   have n4_ : Aside0 (Below w0.heap.size w0 ((World.setCell w12 ⟨gA, k1.toNat, none⟩ (.int .i64 y)).setCell ⟨gA, kz.toNat, none⟩ (.int .i64 x))) := ⟨below_set (below_set HB.out (Nat.le_trans HW0.out GA.out)) (Nat.le_trans HW0.out GA.out)⟩
   clear hk_ XO BKb PT SL HB HP2 hz1 hz2 hf1 hz3 hf3 hHeld HT_ HW_
   generalize ((World.setCell w12 ⟨gA, k1.toNat, none⟩ (.int .i64 y)).setCell ⟨gA, kz.toNat, none⟩ (.int .i64 x)) = w13 at n0_ n1_ n2_ n3_ n4_ ⊢
   have XO := n0_
   have BKb := n1_
   have PT := n2_
   have SL := n3_
   have HB := n4_
   clear n0_ n1_ n2_ n3_ n4_
   try go_wp2
   have n_ : Aside0 (cr.InN n (cr.sw xs z)) := ⟨HXS.out.sw (by rw [HK.out]; exact ⟨HKZ.out.1, HKN.out⟩)⟩
   clear HXS
   have HXS := n_
   clear n_
   go_roundg k1_
   case measure => omega
   case rel =>
    have HW := Aside0.mk (show wrap64 (i + 1) = i + 1 by have := HI0.out; have := HI1.out; have := HG.out.1.1; unfold wrap64; omega)
    exact ⟨wrap64 (i + 1), q, cr.sw xs z, cr.stR xs L z, (by first | rfl | (simp; done) | (simp [*]; done)), ⟨by have := HQ.out; omega⟩, ⟨by have := HI.out; rw [HW.out]; omega⟩, ⟨by rw [HW.out]; exact HA.out⟩, HXS, HSL, ⟨(by (with_reducible repeat (first | apply Kd.R_alloc | apply Kd.R_drewN | apply Kd.R_drew)); exact XO.out)⟩, ⟨(by (with_reducible repeat (first | refine blk_drewN ?_ _ | refine blk_drew ?_ | refine blk_alloc ?_ _)); exact BKb.out)⟩, ⟨(by (with_reducible repeat (first | refine blk_drewN ?_ _ | refine blk_drew ?_ | refine blk_alloc ?_ _)); exact PT.out)⟩, ⟨(by (with_reducible repeat (first | apply Kd.S_alloc | apply Kd.S_drewN | apply Kd.S_drew)); exact SL.out)⟩, ⟨(by repeat (first | (with_reducible first | exact HB.out | apply below_alloc | apply pw_below_drewN | apply below_drew1) | exact HB.out))⟩⟩
def impl_CrossingsOf.f (k : Nat) (a0_0 : Int) (l0_1 : List Int) : Option (List (List Int) × Int) := (impl_IsBraid.f k a0_0 l0_1).bind fun t => if t = true then (impl_zeroRows.f k a0_0).bind fun L0 => (impl_strandsOf.f k a0_0).bind fun xs0 => if (1 ≤ a0_0 ∧ a0_0 ≤ 8) ∧ cr.goodN a0_0.toNat l0_1 ∧ cr.InN a0_0.toNat xs0 ∧ iv.Sq a0_0.toNat L0 then some (cr.runR l0_1 xs0 L0, 0) else none else some ([], 1)
theorem impl_CrossingsOf.mono : ∀ a0 a1 k, LeO (impl_CrossingsOf.f k a0 a1) (impl_CrossingsOf.f (k + 1) a0 a1) := by
 intro a0 a1 k
 unfold impl_CrossingsOf.f
 exact LeO.bind (impl_IsBraid.mono _ _ _) (fun _ => LeO.ite (LeO.bind (impl_zeroRows.mono _ _) (fun _ => LeO.bind (impl_strandsOf.mono _ _) (fun _ => LeO.refl _))) (LeO.refl _))
set_option maxHeartbeats 8000000 in
set_option maxRecDepth 100000 in
theorem impl_CrossingsOf.calls (k : Nat) (a0_0 : Int) (A0_1 : Option Addr) (c0_1 : Nat) (l0_1 : List Int) (r1 : List (List Int)) (r2 : Int) (w : World) (hr0_1 : Kd.C (Kd.int .i64) w A0_1 l0_1.length l0_1) (hc0_1 : l0_1.length ≤ c0_1) (h : impl_CrossingsOf.f k a0_0 l0_1 = some (r1, r2)) :
  Calls Try.prog 67 #[.agg #[.int .i64 a0_0, .slice A0_1 l0_1.length c0_1]] w fun e w' => ∃ v0_ : Value, e = .returned (.tuple #[v0_, .int .i64 r2]) ∧ Kd.S (Kd.slice 2 (Kd.int .i64)) 22 w' w.heap.size (fun _ => True) v0_ r1 ∧ Below w.heap.size w w' := by
 have hu := Try.underlying26
 have HR0 := Aside0.mk hr0_1
 have HC0 := Aside0.mk hc0_1
 clear hr0_1 hc0_1
 have HB := Aside0.mk (Below.refl w.heap.size w)
 have H0 := h
 clear h
 unfold impl_CrossingsOf.f at H0
 obtain ⟨t1, A1_, H1⟩ := Option.bind_eq_some_iff.mp H0
 clear H0
 have A1 := Aside0.mk A1_
 clear A1_
 cases t1 with
 | false =>
  simp only [Bool.false_eq_true, if_false, Option.some.injEq, Prod.mk.injEq] at H1
  obtain ⟨rfl, rfl⟩ := H1
  go_enter Try.func67, Try.ntmps67
  go_wp2_with (first | ((with_reducible refine gate_dst (N := 1) rfl ?_); refine box_event ?hg (N := 1) ?hd (cs := #[.int .i64 a0_0, .slice A0_1 l0_1.length c0_1]) (t := 26) ?hr ?_; (case hd => rfl); (case hg => rfl); (case hr => first | (go_simp; done) | (go_simp; rfl)); intro gb hg w1 hbox hb; have n_ := Aside0.mk (below_step (by repeat (first | (with_reducible first | exact HB.out | apply below_alloc | apply pw_below_drewN | apply below_drew1) | exact HB.out)) hb); clear HB; have HB := n_; clear n_; have HCB0 := Aside0.mk ((blk_cell hbox 0).trans rfl); have HCB1 := Aside0.mk ((blk_cell hbox 1).trans rfl); have HB2 := Aside0.mk (Below.refl w1.heap.size w1); have HRA := Aside0.mk (Kd.C_below HR0.out HB.out); clear hg hb; have hzgb_0 := (blk_cell hbox 0).trans rfl; have hzgb_1 := (blk_cell hbox 1).trans rfl; clear hbox) | ((with_reducible refine gate_callee (f := 47) rfl ?_); refine goesL_ (some 6) rfl rfl Try.func47 (by kernel_rfl) rfl #[.agg #[.int .i64 a0_0, .slice A0_1 l0_1.length c0_1]] rfl (by (try simp only [List.map_toArray, List.map_cons, List.map_nil]); first | done | rfl) ?_; (with_reducible refine (impl_IsBraid.calls k a0_0 _ _ l0_1 _ _ ?side1 ?side2 A1.out).mono ?_); (case side1 => repeat (first | exact (Kd.C_below HRA.out HB2.out) | (with_reducible refine Kd.C_alloc ?_ _) | (with_reducible refine Kd.C_drewN ?_ _) | (with_reducible refine Kd.C_drew ?_))); (case side2 => exact HC0.out); rintro e wi ⟨rfl, hb⟩; refine ⟨_, rfl, ?_⟩; have n_ := Aside0.mk (below_step (by repeat (first | (with_reducible first | exact HB2.out | apply below_alloc | apply pw_below_drewN | apply below_drew1) | exact HB2.out)) hb); clear HB2; have HB2 := n_; clear n_; clear hb; (try clear hzgb_0 hzgb_1); have hzgb_0 := (HB2.out.cell (World.block_lt_of_cell? w1 _ HCB0.out)).trans HCB0.out; have hzgb_1 := (HB2.out.cell (World.block_lt_of_cell? w1 _ HCB1.out)).trans HCB1.out))
  go_ret2
  exact ⟨_, rfl, Kd.S_nil _ _ _ _ _, below_step HB.out (by repeat (first | (with_reducible first | exact HB2.out | apply below_alloc | apply pw_below_drewN | apply below_drew1) | exact HB2.out))⟩
 | true =>
  simp only [if_true] at H1
  obtain ⟨L0, A2_, H2⟩ := Option.bind_eq_some_iff.mp H1
  clear H1
  obtain ⟨xs0, A3_, H3⟩ := Option.bind_eq_some_iff.mp H2
  clear H2
  by_cases hg : (1 ≤ a0_0 ∧ a0_0 ≤ 8) ∧ cr.goodN a0_0.toNat l0_1 ∧ cr.InN a0_0.toNat xs0 ∧ iv.Sq a0_0.toNat L0
  case neg => rw [if_neg hg] at H3; cases H3
  rw [if_pos hg, Option.some.injEq, Prod.mk.injEq] at H3
  obtain ⟨e1_, e2_⟩ := H3
  subst e2_
  obtain ⟨n, hm⟩ : ∃ m : Nat, a0_0 = m := ⟨a0_0.toNat, by omega⟩
  subst hm
  rw [Int.toNat_natCast] at hg
  have HM : Aside0 (1 ≤ n ∧ n ≤ 8) := ⟨by omega⟩
  have HG := Aside0.mk hg.2.1
  have HIN := Aside0.mk hg.2.2.1
  have HSQ := Aside0.mk hg.2.2.2
  have A2 := Aside0.mk A2_
  have A3 := Aside0.mk A3_
  have HRR := Aside0.mk e1_
  clear hg A2_ A3_ e1_
  go_enter Try.func67, Try.ntmps67
  go_wp2_with (first | ((with_reducible refine gate_dst (N := 1) rfl ?_); refine box_event ?hg (N := 1) ?hd (cs := #[.int .i64 (n : Int), .slice A0_1 l0_1.length c0_1]) (t := 26) ?hr ?_; (case hd => rfl); (case hg => rfl); (case hr => first | (go_simp; done) | (go_simp; rfl)); intro gb hg w1 hbox hb; have n_ := Aside0.mk (below_step (by repeat (first | (with_reducible first | exact HB.out | apply below_alloc | apply pw_below_drewN | apply below_drew1) | exact HB.out)) hb); clear HB; have HB := n_; clear n_; have HCB0 := Aside0.mk ((blk_cell hbox 0).trans rfl); have HCB1 := Aside0.mk ((blk_cell hbox 1).trans rfl); have HB2 := Aside0.mk (Below.refl w1.heap.size w1); have HRA := Aside0.mk (Kd.C_below HR0.out HB.out); clear hg hb; have hzgb_0 := (blk_cell hbox 0).trans rfl; have hzgb_1 := (blk_cell hbox 1).trans rfl; clear hbox) | ((with_reducible refine gate_callee (f := 47) rfl ?_); refine goesL_ (some 6) rfl rfl Try.func47 (by kernel_rfl) rfl #[.agg #[.int .i64 (n : Int), .slice A0_1 l0_1.length c0_1]] rfl (by (try simp only [List.map_toArray, List.map_cons, List.map_nil]); first | done | rfl) ?_; (with_reducible refine (impl_IsBraid.calls k (n : Int) _ _ l0_1 _ _ ?side1 ?side2 A1.out).mono ?_); (case side1 => repeat (first | exact (Kd.C_below HRA.out HB2.out) | (with_reducible refine Kd.C_alloc ?_ _) | (with_reducible refine Kd.C_drewN ?_ _) | (with_reducible refine Kd.C_drew ?_))); (case side2 => exact HC0.out); rintro e wi ⟨rfl, hb⟩; refine ⟨_, rfl, ?_⟩; have n_ := Aside0.mk (below_step (by repeat (first | (with_reducible first | exact HB2.out | apply below_alloc | apply pw_below_drewN | apply below_drew1) | exact HB2.out)) hb); clear HB2; have HB2 := n_; clear n_; clear hb; (try clear hzgb_0 hzgb_1); have hzgb_0 := (HB2.out.cell (World.block_lt_of_cell? w1 _ HCB0.out)).trans HCB0.out; have hzgb_1 := (HB2.out.cell (World.block_lt_of_cell? w1 _ HCB1.out)).trans HCB1.out) | ((with_reducible refine gate_callee (f := 72) rfl ?_); refine goesL_ (some 10) rfl rfl Try.func72 (by kernel_rfl) rfl #[.int .i64 (n : Int)] rfl (by (try simp only [List.map_toArray, List.map_cons, List.map_nil]); first | done | rfl) ?_; (with_reducible refine (impl_zeroRows.calls k (n : Int) L0 _ A2.out).mono ?_); rintro e wz ⟨vZ, rfl, ho0, hb⟩; refine ⟨_, rfl, ?_⟩; obtain ⟨gL, cL, eL, _, _, _⟩ := Kd.S_form ho0 (by rw [HSQ.out.1]; have := HM.out; omega); rw [HSQ.out.1] at eL; subst eL; have SL := Aside0.mk (Kd.S_lower ho0 (below_size (by repeat (first | (with_reducible first | exact HB2.out | apply below_alloc | apply pw_below_drewN | apply below_drew1) | exact HB2.out)))); have n_ := Aside0.mk (below_step (by repeat (first | (with_reducible first | exact HB2.out | apply below_alloc | apply pw_below_drewN | apply below_drew1) | exact HB2.out)) hb); clear HB2; have HB2 := n_; clear n_; clear hb ho0; (try clear hzgb_0 hzgb_1); have hzgb_0 := (HB2.out.cell (World.block_lt_of_cell? w1 _ HCB0.out)).trans HCB0.out; have hzgb_1 := (HB2.out.cell (World.block_lt_of_cell? w1 _ HCB1.out)).trans HCB1.out) | ((with_reducible refine gate_dst (N := 4) rfl ?_); refine box_event ?hg (N := 4) ?hd (cs := #[.slice none 0 0]) (t := 35) ?hr ?_; (case hd => rfl); (case hg => rfl); (case hr => first | (go_simp; done) | (go_simp; rfl)); intro gp hg wp_ hbox hb; have GP : Aside0 (w1.heap.size ≤ gp) := ⟨by rw [hg]; exact below_size (by repeat (first | (with_reducible first | exact HB2.out | apply below_alloc | apply pw_below_drewN | apply below_drew1) | exact HB2.out))⟩; have n_ := Aside0.mk (Kd.S_below (Kd.S_mono (ok' := fun k_ => k_ < gp) (Kd.S_bound (by (with_reducible repeat (first | apply Kd.S_alloc | apply Kd.S_drewN | apply Kd.S_drew)); exact SL.out)) (fun k_ hk_ => by rw [hg]; exact hk_.2.2.1)) hb); clear SL; have SL := n_; clear n_; have n_ := Aside0.mk (below_step (by repeat (first | (with_reducible first | exact HB2.out | apply below_alloc | apply pw_below_drewN | apply below_drew1) | exact HB2.out)) hb); clear HB2; have HB2 := n_; clear n_; have PT := Aside0.mk hbox; clear hbox hb hg; have hzp := (blk_cell PT.out 0).trans rfl; have hfp := blk_frozen PT.out 0; (try clear hzgb_0 hzgb_1); have hzgb_0 := (HB2.out.cell (World.block_lt_of_cell? w1 _ HCB0.out)).trans HCB0.out; have hzgb_1 := (HB2.out.cell (World.block_lt_of_cell? w1 _ HCB1.out)).trans HCB1.out) | ((with_reducible refine gate_store (t := 35) (p := 4) rfl ?_); (first | (rw [drewN_self wp_]; generalize hq_ : World.drewN wp_ _ = w5) | (rw [drew_self wp_]; generalize hq1_ : World.drew wp_ = w5; have hq_ : World.drewN wp_ 1 = w5 := hq1_; clear hq1_) | (rw [show wp_ = World.drewN wp_ 0 from rfl]; generalize hq_ : World.drewN wp_ 0 = w5)); have n_ := Aside0.mk (Kd.S_at hq_ SL.out); clear SL; have SL := n_; clear n_; have n_ := Aside0.mk (ar_blk_at hq_ PT.out); clear PT; have PT := n_; clear n_; have n_ := Aside0.mk (ar_below_at hq_ HB2.out); clear HB2; have HB2 := n_; clear n_; clear hq_; clear hzp hfp; have hzp := (blk_cell PT.out 0).trans rfl; have hfp := blk_frozen PT.out 0; refine store_event (t := 35) (p := 4) (v := ?vo_p) (w1 := (w5.setCell ⟨gp, 0, none⟩ (.slice (some ⟨gL, 0, none⟩) n cL : Value))) ?hg ?ho ?hn ?hr ?_; (case ho => rfl); (case hg => rfl); (case hn => rfl); (case hr => first | (go_simp; done) | (go_simp; rfl)); intro w6 hw; have n0_ := Aside0.mk (Kd.S_far SL.out (p := ⟨gp, 0, none⟩) (fun k_ h_ e_ => by have h2_ : k_ < gp := h_; have h3_ : k_ = gp := e_; omega) (.slice (some ⟨gL, 0, none⟩) n cL : Value)); rw [← hw] at n0_; clear SL; have SL := n0_; clear n0_; have n1_ : Aside0 (w6.heap[gp]? = some (.cells #[(.slice (some ⟨gL, 0, none⟩) n cL : Value)] 35 (0, 0))) := ⟨by rw [hw]; exact (blk_set PT.out 0 (.slice (some ⟨gL, 0, none⟩) n cL : Value)).trans rfl⟩; clear PT; have PT := n1_; clear n1_; have n2_ : Aside0 (Below w1.heap.size w1 w6) := ⟨by rw [hw]; exact below_set HB2.out GP.out⟩; clear HB2; have HB2 := n2_; clear n2_ hzp hfp hw; (try clear hzgb_0 hzgb_1); have hzgb_0 := (HB2.out.cell (World.block_lt_of_cell? w1 _ HCB0.out)).trans HCB0.out; have hzgb_1 := (HB2.out.cell (World.block_lt_of_cell? w1 _ HCB1.out)).trans HCB1.out) | ((with_reducible refine gate_callee (f := 76) rfl ?_); refine goesL_ (some 13) rfl rfl Try.func76 (by kernel_rfl) rfl #[.agg #[.int .i64 (n : Int), .slice A0_1 l0_1.length c0_1], .func (.func 95) #[] #[.pointer (some ⟨gp, 0, none⟩)]] rfl (by (try simp only [List.map_toArray, List.map_cons, List.map_nil]); first | done | rfl) ?_; (refine (cr_follow k n HM.out A0_1 c0_1 l0_1 HG.out gp gL cL L0 xs0 A3.out HIN.out w1 _ ?sideP ?sideS HSQ.out HRA.out HC0.out ?sideB).mono ?_); (case sideP => exact (by (with_reducible repeat (first | refine blk_drewN ?_ _ | refine blk_drew ?_ | refine blk_alloc ?_ _)); exact PT.out)); (case sideS => exact (by (with_reducible repeat (first | apply Kd.S_alloc | apply Kd.S_drewN | apply Kd.S_drew)); exact SL.out)); (case sideB => exact (by repeat (first | (with_reducible first | exact HB2.out | apply below_alloc | apply pw_below_drewN | apply below_drew1) | exact HB2.out))); rintro e wf ⟨⟨v, rfl⟩, hs_, hp_, hB_⟩; refine ⟨_, rfl, ?_⟩; clear SL PT HB2 hzgb_0 hzgb_1; have SL := Aside0.mk hs_; have PT := Aside0.mk hp_; have HB2 := Aside0.mk hB_; clear hs_ hp_ hB_; have hzp := (blk_cell PT.out 0).trans rfl))
  go_ret2
  rw [HRR.out] at SL
  exact ⟨_, rfl, Kd.S_mono (Kd.S_lower (by (with_reducible repeat (first | apply Kd.S_alloc | apply Kd.S_drewN | apply Kd.S_drew)); exact SL.out) (below_size HB.out)) (fun _ _ => trivial), below_step HB.out (by repeat (first | (with_reducible first | exact HB2.out | apply below_alloc | apply pw_below_drewN | apply below_drew1) | exact HB2.out))⟩


end Go.Proofs.Ytcbomfkimohlfaa.MFnExactComponentLinkings
