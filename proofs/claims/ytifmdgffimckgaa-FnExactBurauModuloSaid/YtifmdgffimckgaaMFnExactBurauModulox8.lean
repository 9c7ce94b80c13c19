-- Walks of the functions that a law reaches, one after the other: plain functions, and that the machine's calls come to what they tell (wip/tools/myprint.py of this repo).
import Derived.Test.YtifmdgffimckgaaMFnExactBurauModulox0
import Derived.Test.YtifmdgffimckgaaMFnExactBurauModulox4
import Derived.Test.YtifmdgffimckgaaMFnExactBurauModulox6
import Derived.Test.YtifmdgffimckgaaMFnExactBurauModulox7
import Derived.Test.YtifmdgffimckgaaLibArr
import Derived.Test.YtifmdgffimckgaaLibMx
import Derived.Test.YtifmdgffimckgaaLibPi
namespace Go.Proofs.Ytifmdgffimckgaa.MFnExactBurauModulo
open Go.RowKit Go.Proofs.YtifmdgffimckgaaW.PrintWords Go.Proofs.YtifmdgffimckgaaW.PrintLast Go.Proofs.YtifmdgffimckgaaW.PrintMore
open Go.Proofs.Ytifmdgffimckgaa.LibPi
open Go.Proofs.Ytifmdgffimckgaa.LibMx
open Go.Proofs.Ytifmdgffimckgaa.LibArr
attribute [local go_sem] max2_int min2_int max_two min_two max_three min_three max_four min_four   -- for this text's walks alone
set_option linter.unusedVariables false
set_option linter.unusedSimpArgs false

/-! ### impl_BurauModulo: function 9 -/
def buc.T2 : Bool × List (List Nat × List Nat) := (true, [([], []), ([], []), ([1], [1]), ([0, 2], [0, 2]), ([3], [3]), ([], []), ([5], [5]), ([], []), ([], []), ([8], [8]), ([7, 9], [7, 9]), ([10], [10]), ([], []), ([], []), ([], []), ([13, 14], [13, 14]), ([15], [15]), ([], []), ([17], [17]), ([], []), ([], []), ([19, 20], [19, 20]), ([21], [21]), ([], []), ([], []), ([24], [24]), ([25], [25]), ([], []), ([4, 6, 0, 1, 2, 3, 4, 5, 6, 11, 16, 22, 24, 25, 26], [4, 6]), ([28, 26, 26, 0, 1, 2, 3, 4, 5, 6, 11, 16, 22, 24, 25, 26], [26, 28]), ([11, 12, 0, 1, 2, 3, 4, 5, 6, 7, 8, 9, 10, 11, 12, 16, 22, 24, 25, 26, 27, 28, 29], [11, 12]), ([30, 27, 29, 0, 1, 2, 3, 4, 5, 6, 7, 8, 9, 10, 11, 12, 16, 22, 24, 25, 26, 27, 28, 29], [27, 30]), ([16, 18, 0, 1, 2, 3, 4, 5, 6, 7, 8, 9, 10, 11, 12, 13, 14, 15, 16, 17, 18, 22, 24, 25, 26, 27, 28, 29, 30, 31], [16, 18]), ([32, 31, 0, 1, 2, 3, 4, 5, 6, 7, 8, 9, 10, 11, 12, 13, 14, 15, 16, 17, 18, 22, 24, 25, 26, 27, 28, 29, 30, 31], [32]), ([22, 23, 0, 1, 2, 3, 4, 5, 6, 7, 8, 9, 10, 11, 12, 13, 14, 15, 16, 17, 18, 19, 20, 21, 22, 23, 24, 25, 26, 27, 28, 29, 30, 31, 32, 33], [22, 23]), ([34, 33, 0, 1, 2, 3, 4, 5, 6, 7, 8, 9, 10, 11, 12, 13, 14, 15, 16, 17, 18, 19, 20, 21, 22, 23, 24, 25, 26, 27, 28, 29, 30, 31, 32, 33], [34])])
def buc.B2 : List Nat := [0, 0, 2, 7, 15, 0, 32, 0, 0, 256, 896, 1920, 0, 0, 0, 24576, 57344, 0, 131072, 0, 0, 1572864, 3670016, 0, 0, 16777216, 50331648, 0, 125431807, 393867263, 1064959999, 2138701823, 4286578687, 8581545983, 17179869183, 34359738367]
theorem buc.tab2 : rtab .any (opsOf Try.f26 2) = buc.T2 := by kernel_rfl
theorem buc.bits2 : waitsOk buc.T2.2 buc.B2 = true := by kernel_rfl
set_option maxHeartbeats 8000000 in
set_option maxRecDepth 100000 in
theorem bu_letter (k m : Nat) (hm : m ≤ 8) (kz t : Int) (hk : 1 ≤ kz ∧ kz < m) (U : List (List Int)) (hU : impl_unitIn.f k (m : Int) = some U) (hq : iv.Sq m U) (gb gt : Nat) (W : World) (hb : (W).cell? ⟨gb, 0, none⟩ = some (.int .i64 (m : Int))) (ht : (W).cell? ⟨gt, 0, none⟩ = some (.int .i64 t)) :
    Calls Try.prog 26 #[.int .i64 kz, .pointer (some ⟨gb, 0, none⟩), .pointer (some ⟨gt, 0, none⟩)] W fun e w' => ∃ v0_ : Value, e = .returned v0_ ∧ Kd.S (Kd.slice 2 (Kd.int .i64)) 22 w' W.heap.size (fun _ => True) v0_ (pi.bs t kz U) ∧ Below W.heap.size W w' := by
  have HCB := Aside0.mk hb
  have HCT := Aside0.mk ht
  have HKZ := Aside0.mk hk
  have HM := Aside0.mk hm
  have HU := Aside0.mk hU
  have HSQ' := Aside0.mk hq
  have HB2 := Aside0.mk (Below.refl W.heap.size W)
  clear ht hk hm hU hq
  go_enter Try.func26, Try.ntmps26
  go_wp2_with (first | ((with_reducible refine gate_callee (f := 27) rfl ?_); refine goesL_ (some 8) rfl rfl Try.func27 (by kernel_rfl) rfl #[.int .i64 (m : Int)] rfl (by (try simp only [List.map_toArray, List.map_cons, List.map_nil]); first | done | rfl) ?_; (refine (impl_unitIn.calls k (m : Int) U _ HU.out).mono ?_); rintro e w8 ⟨v8, rfl, ho, hb_⟩; refine ⟨_, rfl, ?_⟩; have SU := Aside0.mk (Kd.S_lower ho (below_size (by repeat (first | (with_reducible first | exact HB2.out | apply below_alloc | apply pw_below_drewN | apply below_drew1) | exact HB2.out)))); have n_ := Aside0.mk (below_step (by repeat (first | (with_reducible first | exact HB2.out | apply below_alloc | apply pw_below_drewN | apply below_drew1) | exact HB2.out)) hb_); clear HB2; have HB2 := n_; clear n_; clear hb_ ho))
  obtain ⟨gU, cU, e_, _, _, _⟩ := Kd.S_form SU.out (by rw [HSQ'.out.1]; have := HM.out; have := HKZ.out; omega)
  rw [HSQ'.out.1] at e_
  subst e_
  clear hb
  obtain ⟨k1, hk1⟩ : ∃ x, wrap64 (kz - 1) = x := ⟨_, rfl⟩
  have HK1 : Aside0 (k1 = kz - 1) := ⟨by rw [← hk1]; have := HKZ.out; have := HM.out; unfold wrap64; omega⟩
  have HW1b : Aside0 (kz - 1 = k1) := ⟨HK1.out.symm⟩
  have hk1w : (IntKind.i64.wrap (kz - 1)) = k1 := (i64_w _).trans hk1
  have a0_ : 0 ≤ k1 := by have := HKZ.out; have := HK1.out; omega
  have a1_ : k1 < (m : Int) := by have := HKZ.out; have := HK1.out; omega
  have b0_ : 0 ≤ kz := by have := HKZ.out; omega
  have b1_ : kz < (m : Int) := by have := HKZ.out; omega
  have pk0 : (0 ≤ k1) = True := eq_true a0_
  have pk1 : (k1 < (m : Int)) = True := eq_true a1_
  have pk2 : (0 ≤ kz) = True := eq_true b0_
  have pk3 : (kz < (m : Int)) = True := eq_true b1_
  have HAB := Aside0.mk (And.intro (And.intro a0_ a1_) (And.intro b0_ b1_))
  clear a0_ a1_ b0_ b1_
  (first | (rw [drewN_self w8]; generalize hq_ : World.drewN w8 _ = w9) | (rw [drew_self w8]; generalize hq1_ : World.drew w8 = w9; have hq_ : World.drewN w8 1 = w9 := hq1_; clear hq1_) | (rw [show w8 = World.drewN w8 0 from rfl]; generalize hq_ : World.drewN w8 0 = w9))
  have n_ := Aside0.mk (Kd.S_at hq_ SU.out); clear SU; have SU := n_; clear n_
  have n_ := Aside0.mk (ar_below_at hq_ HB2.out); clear HB2; have HB2 := n_; clear n_
  clear hq_
  have n_ := Aside0.mk (Kd.S_drew SU.out); clear SU; have SU := n_; clear n_
  have n_ := Aside0.mk (below_drew1 HB2.out); clear HB2; have HB2 := n_; clear n_
  obtain ⟨gA2, cA2, gB2, cB2, hA2, hB2_, bA, bB, kA_, kB_, ⟨u1, hz1⟩, hf1, ⟨u2, hz2⟩, hf2, ⟨u3, hz3⟩, hf3, ⟨u4, hz4⟩, hf4, HM4⟩ := four SU.out HSQ'.out (k1) (kz) HAB.out.1.1 HAB.out.1.2 HAB.out.2.1 HAB.out.2.2 (iv.inF (wrap64 (1 - t))) (t) (1) (0) 
  clear kA_ kB_
  clear hz1 hf1 hz2 hf2 hz3 hf3 hz4 hf4 HM4 bA bB
  obtain ⟨gA, hgA⟩ : ∃ x, x = gA2 := ⟨_, rfl⟩
  obtain ⟨cA, hcA⟩ : ∃ x, x = cA2 := ⟨_, rfl⟩
  obtain ⟨gB, hgB⟩ : ∃ x, x = gB2 := ⟨_, rfl⟩
  obtain ⟨cB, hcB⟩ : ∃ x, x = cB2 := ⟨_, rfl⟩
  subst hgA hcA hgB hcB
  have hzt := (HB2.out.cell (World.block_lt_of_cell? W _ HCT.out)).trans HCT.out
  refine start_ (n := 36) (S := fun w' => w'.cell? ⟨gU, k1.toNat, none⟩ = some (.slice (some ⟨gA, 0, none⟩) m cA) ∧ w'.cell? ⟨gU, kz.toNat, none⟩ = some (.slice (some ⟨gB, 0, none⟩) m cB) ∧ w'.cell? ⟨gt, 0, none⟩ = some (.int .i64 t)) (ds := [31, 33, 35]) #[false, false, false, false, false, false, false, false, false, false, false, false, false, false, false, false, false, false, false, false, false, false, false, false, false, false, false, false, false, false, false, false, false, false, false, false] (by kernel_rfl) rfl rfl ⟨hA2, hB2_, hzt⟩ (fun hHeld => ?_)
  refine with_tabW buc.tab2 buc.bits2 (fun HT_ HW_ => ?_)
  generalize w9.drew = w10 at SU HB2 hA2 hB2_ hzt hHeld ⊢
  refine pure_ (i := 0) (N := some 9) (v := ?_) (a' := ?_) #[true, false, false, false, false, false, false, false, false, false, false, false, false, false, false, false, false, false, false, false, false, false, false, false, false, false, false, false, false, false, false, false, false, false, false, false] rfl rfl (any_of HT_.out (by kernel_rfl)) (fun _ _ _ h => h) (Or.inl ⟨by rfl, ?_⟩) ?_ ?_
  rotate_left
  · intro w'
    go_simp
    with_reducible rfl
  rotate_left
  · simp only [Act.put, List.setIfInBounds_toArray, List.set_cons_zero, List.set_cons_succ, i64_w, i32_w]
    rfl
  refine pure_ (i := 1) (N := some 10) (v := ?_) (a' := ?_) #[true, true, false, false, false, false, false, false, false, false, false, false, false, false, false, false, false, false, false, false, false, false, false, false, false, false, false, false, false, false, false, false, false, false, false, false] rfl rfl (any_of HT_.out (by kernel_rfl)) (fun _ _ _ h => h) (Or.inl ⟨by rfl, ?_⟩) ?_ ?_
  rotate_left
  · intro w'
    go_simp
    with_reducible rfl
  rotate_left
  · simp only [Act.put, List.setIfInBounds_toArray, List.set_cons_zero, List.set_cons_succ, i64_w, i32_w]
    rfl
  refine pure_ (i := 2) (N := some 11) (v := ?_) (a' := ?_) #[true, true, true, false, false, false, false, false, false, false, false, false, false, false, false, false, false, false, false, false, false, false, false, false, false, false, false, false, false, false, false, false, false, false, false, false] rfl rfl (any_of HT_.out (by kernel_rfl)) (fun _ _ _ h => h) (Or.inl ⟨by rfl, ?_⟩) ?_ ?_
  rotate_left
  · intro w'
    go_simp
    with_reducible rfl
  rotate_left
  · simp only [Act.put, List.setIfInBounds_toArray, List.set_cons_zero, List.set_cons_succ, i64_w, i32_w]
    rfl
  refine pure_ (i := 3) (N := some 12) (v := ?_) (a' := ?_) #[true, true, true, true, false, false, false, false, false, false, false, false, false, false, false, false, false, false, false, false, false, false, false, false, false, false, false, false, false, false, false, false, false, false, false, false] rfl rfl (any_of HT_.out (by kernel_rfl)) (fun _ _ _ h => h) (Or.inl ⟨by rfl, ?_⟩) ?_ ?_
  rotate_left
  · intro w'
    go_simp
    with_reducible rfl
  rotate_left
  · simp only [Act.put, List.setIfInBounds_toArray, List.set_cons_zero, List.set_cons_succ, i64_w, i32_w]
    rfl
  refine pure_ (i := 5) (N := some 14) (v := ?_) (a' := ?_) #[true, true, true, true, false, true, false, false, false, false, false, false, false, false, false, false, false, false, false, false, false, false, false, false, false, false, false, false, false, false, false, false, false, false, false, false] rfl rfl (any_of HT_.out (by kernel_rfl)) (fun _ _ _ h => h) (Or.inl ⟨by rfl, ?_⟩) ?_ ?_
  rotate_left
  · intro w'
    go_simp
    with_reducible rfl
  rotate_left
  · simp only [Act.put, List.setIfInBounds_toArray, List.set_cons_zero, List.set_cons_succ, i64_w, i32_w]
    rfl
  refine pure_ (i := 6) (N := some 15) (v := ?_) (a' := ?_) #[true, true, true, true, false, true, true, false, false, false, false, false, false, false, false, false, false, false, false, false, false, false, false, false, false, false, false, false, false, false, false, false, false, false, false, false] rfl rfl (any_of HT_.out (by kernel_rfl)) (fun _ _ _ h => h) (Or.inl ⟨by rfl, ?_⟩) ?_ ?_
  rotate_left
  · intro w'
    go_simp
    with_reducible rfl
  rotate_left
  · simp only [Act.put, List.setIfInBounds_toArray, List.set_cons_zero, List.set_cons_succ, i64_w, i32_w]
    rfl
  refine pure_ (i := 7) (N := some 16) (v := ?_) (a' := ?_) #[true, true, true, true, false, true, true, true, false, false, false, false, false, false, false, false, false, false, false, false, false, false, false, false, false, false, false, false, false, false, false, false, false, false, false, false] rfl rfl (any_of HT_.out (by kernel_rfl)) (fun _ _ _ h => h) (Or.inl ⟨by rfl, ?_⟩) ?_ ?_
  rotate_left
  · intro w'
    go_simp
    with_reducible rfl
  rotate_left
  · simp only [Act.put, List.setIfInBounds_toArray, List.set_cons_zero, List.set_cons_succ, i64_w, i32_w]
    rfl
  refine pure_ (i := 8) (N := some 17) (v := ?_) (a' := ?_) #[true, true, true, true, false, true, true, true, true, false, false, false, false, false, false, false, false, false, false, false, false, false, false, false, false, false, false, false, false, false, false, false, false, false, false, false] rfl rfl (any_of HT_.out (by kernel_rfl)) (fun _ _ _ h => h) (Or.inl ⟨by rfl, ?_⟩) ?_ ?_
  rotate_left
  · intro w'
    go_simp
    with_reducible rfl
  rotate_left
  · simp only [Act.put, List.setIfInBounds_toArray, List.set_cons_zero, List.set_cons_succ, i64_w, i32_w]
    rfl
  refine pure_ (i := 9) (N := some 18) (v := ?_) (a' := ?_) #[true, true, true, true, false, true, true, true, true, true, false, false, false, false, false, false, false, false, false, false, false, false, false, false, false, false, false, false, false, false, false, false, false, false, false, false] rfl rfl (any_of HT_.out (by kernel_rfl)) (fun _ _ _ h => h) (Or.inl ⟨by rfl, ?_⟩) ?_ ?_
  rotate_left
  · intro w'
    go_simp
    with_reducible rfl
  rotate_left
  · simp only [Act.put, List.setIfInBounds_toArray, List.set_cons_zero, List.set_cons_succ, i64_w, i32_w]
    rfl
  refine pure_ (i := 10) (N := some 19) (v := ?_) (a' := ?_) #[true, true, true, true, false, true, true, true, true, true, true, false, false, false, false, false, false, false, false, false, false, false, false, false, false, false, false, false, false, false, false, false, false, false, false, false] rfl rfl (any_of HT_.out (by kernel_rfl)) (fun _ _ _ h => h) (Or.inl ⟨by rfl, ?_⟩) ?_ ?_
  rotate_left
  · intro w'
    go_simp
    with_reducible rfl
  rotate_left
  · simp only [Act.put, List.setIfInBounds_toArray, List.set_cons_zero, List.set_cons_succ, i64_w, i32_w]
    rfl
  refine pure_ (i := 12) (N := some 21) (v := ?_) (a' := ?_) #[true, true, true, true, false, true, true, true, true, true, true, false, true, false, false, false, false, false, false, false, false, false, false, false, false, false, false, false, false, false, false, false, false, false, false, false] rfl rfl (any_of HT_.out (by kernel_rfl)) (fun _ _ _ h => h) (Or.inl ⟨by rfl, ?_⟩) ?_ ?_
  rotate_left
  · intro w'
    go_simp
    with_reducible rfl
  rotate_left
  · simp only [Act.put, List.setIfInBounds_toArray, List.set_cons_zero, List.set_cons_succ, i64_w, i32_w]
    rfl
  refine pure_ (i := 13) (N := some 22) (v := ?_) (a' := ?_) #[true, true, true, true, false, true, true, true, true, true, true, false, true, true, false, false, false, false, false, false, false, false, false, false, false, false, false, false, false, false, false, false, false, false, false, false] rfl rfl (any_of HT_.out (by kernel_rfl)) (fun _ _ _ h => h) (Or.inl ⟨by rfl, ?_⟩) ?_ ?_
  rotate_left
  · intro w'
    go_simp
    with_reducible rfl
  rotate_left
  · simp only [Act.put, List.setIfInBounds_toArray, List.set_cons_zero, List.set_cons_succ, i64_w, i32_w]
    rfl
  refine pure_ (i := 14) (N := some 23) (v := ?_) (a' := ?_) #[true, true, true, true, false, true, true, true, true, true, true, false, true, true, true, false, false, false, false, false, false, false, false, false, false, false, false, false, false, false, false, false, false, false, false, false] rfl rfl (any_of HT_.out (by kernel_rfl)) (fun _ _ _ h => h) (Or.inl ⟨by rfl, ?_⟩) ?_ ?_
  rotate_left
  · intro w'
    go_simp
    with_reducible rfl
  rotate_left
  · simp only [Act.put, List.setIfInBounds_toArray, List.set_cons_zero, List.set_cons_succ, i64_w, i32_w]
    rfl
  refine pure_ (i := 15) (N := some 24) (v := ?_) (a' := ?_) #[true, true, true, true, false, true, true, true, true, true, true, false, true, true, true, true, false, false, false, false, false, false, false, false, false, false, false, false, false, false, false, false, false, false, false, false] rfl rfl (any_of HT_.out (by kernel_rfl)) (fun _ _ _ h => h) (Or.inl ⟨by rfl, ?_⟩) ?_ ?_
  rotate_left
  · intro w'
    go_simp
    with_reducible rfl
  rotate_left
  · simp only [Act.put, List.setIfInBounds_toArray, List.set_cons_zero, List.set_cons_succ, i64_w, i32_w]
    rfl
  refine pure_ (i := 17) (N := some 26) (v := ?_) (a' := ?_) #[true, true, true, true, false, true, true, true, true, true, true, false, true, true, true, true, false, true, false, false, false, false, false, false, false, false, false, false, false, false, false, false, false, false, false, false] rfl rfl (any_of HT_.out (by kernel_rfl)) (fun _ _ _ h => h) (Or.inl ⟨by rfl, ?_⟩) ?_ ?_
  rotate_left
  · intro w'
    go_simp
    with_reducible rfl
  rotate_left
  · simp only [Act.put, List.setIfInBounds_toArray, List.set_cons_zero, List.set_cons_succ, i64_w, i32_w]
    rfl
  refine pure_ (i := 18) (N := some 27) (v := ?_) (a' := ?_) #[true, true, true, true, false, true, true, true, true, true, true, false, true, true, true, true, false, true, true, false, false, false, false, false, false, false, false, false, false, false, false, false, false, false, false, false] rfl rfl (any_of HT_.out (by kernel_rfl)) (fun _ _ _ h => h) (Or.inl ⟨by rfl, ?_⟩) ?_ ?_
  rotate_left
  · intro w'
    go_simp
    with_reducible rfl
  rotate_left
  · simp only [Act.put, List.setIfInBounds_toArray, List.set_cons_zero, List.set_cons_succ, i64_w, i32_w]
    rfl
  refine pure_ (i := 19) (N := some 28) (v := ?_) (a' := ?_) #[true, true, true, true, false, true, true, true, true, true, true, false, true, true, true, true, false, true, true, true, false, false, false, false, false, false, false, false, false, false, false, false, false, false, false, false] rfl rfl (any_of HT_.out (by kernel_rfl)) (fun _ _ _ h => h) (Or.inl ⟨by rfl, ?_⟩) ?_ ?_
  rotate_left
  · intro w'
    go_simp
    with_reducible rfl
  rotate_left
  · simp only [Act.put, List.setIfInBounds_toArray, List.set_cons_zero, List.set_cons_succ, i64_w, i32_w]
    rfl
  refine pure_ (i := 20) (N := some 29) (v := ?_) (a' := ?_) #[true, true, true, true, false, true, true, true, true, true, true, false, true, true, true, true, false, true, true, true, true, false, false, false, false, false, false, false, false, false, false, false, false, false, false, false] rfl rfl (any_of HT_.out (by kernel_rfl)) (fun _ _ _ h => h) (Or.inl ⟨by rfl, ?_⟩) ?_ ?_
  rotate_left
  · intro w'
    go_simp
    with_reducible rfl
  rotate_left
  · simp only [Act.put, List.setIfInBounds_toArray, List.set_cons_zero, List.set_cons_succ, i64_w, i32_w]
    rfl
  refine pure_ (i := 21) (N := some 30) (v := ?_) (a' := ?_) #[true, true, true, true, false, true, true, true, true, true, true, false, true, true, true, true, false, true, true, true, true, true, false, false, false, false, false, false, false, false, false, false, false, false, false, false] rfl rfl (any_of HT_.out (by kernel_rfl)) (fun _ _ _ h => h) (Or.inl ⟨by rfl, ?_⟩) ?_ ?_
  rotate_left
  · intro w'
    go_simp
    with_reducible rfl
  rotate_left
  · simp only [Act.put, List.setIfInBounds_toArray, List.set_cons_zero, List.set_cons_succ, i64_w, i32_w]
    rfl
  refine pure_ (i := 23) (N := some 32) (v := ?_) (a' := ?_) #[true, true, true, true, false, true, true, true, true, true, true, false, true, true, true, true, false, true, true, true, true, true, false, true, false, false, false, false, false, false, false, false, false, false, false, false] rfl rfl (any_of HT_.out (by kernel_rfl)) (fun _ _ _ h => h) (Or.inl ⟨by rfl, ?_⟩) ?_ ?_
  rotate_left
  · intro w'
    go_simp
    with_reducible rfl
  rotate_left
  · simp only [Act.put, List.setIfInBounds_toArray, List.set_cons_zero, List.set_cons_succ, i64_w, i32_w]
    rfl
  refine take_ (i := 4) (N := some 13) (v := ?_) (a' := ?_) #[true, true, true, true, true, true, true, true, true, true, true, false, true, true, true, true, false, true, true, true, true, true, false, true, false, false, false, false, false, false, false, false, false, false, false, false] rfl rfl (take_ofW HT_.out HW_.out (by kernel_rfl)) (fun _ _ _ h => h) (Or.inl ⟨by rfl, ?_⟩) hHeld ?_ ?_
  rotate_left
  · rintro w' ⟨s0, s1, s2⟩
    go_simp
    with_reducible rfl
  rotate_left
  · simp only [Act.put, List.setIfInBounds_toArray, List.set_cons_zero, List.set_cons_succ, i64_w, i32_w]
    rfl
  refine take_ (i := 11) (N := some 20) (v := ?_) (a' := ?_) #[true, true, true, true, true, true, true, true, true, true, true, true, true, true, true, true, false, true, true, true, true, true, false, true, false, false, false, false, false, false, false, false, false, false, false, false] rfl rfl (take_ofW HT_.out HW_.out (by kernel_rfl)) (fun _ _ _ h => h) (Or.inl ⟨by rfl, ?_⟩) hHeld ?_ ?_
  rotate_left
  · rintro w' ⟨s0, s1, s2⟩
    go_simp
    with_reducible rfl
  rotate_left
  · simp only [Act.put, List.setIfInBounds_toArray, List.set_cons_zero, List.set_cons_succ, i64_w, i32_w]
    rfl
  refine take_ (i := 16) (N := some 25) (v := ?_) (a' := ?_) #[true, true, true, true, true, true, true, true, true, true, true, true, true, true, true, true, true, true, true, true, true, true, false, true, false, false, false, false, false, false, false, false, false, false, false, false] rfl rfl (take_ofW HT_.out HW_.out (by kernel_rfl)) (fun _ _ _ h => h) (Or.inl ⟨by rfl, ?_⟩) hHeld ?_ ?_
  rotate_left
  · rintro w' ⟨s0, s1, s2⟩
    go_simp
    with_reducible rfl
  rotate_left
  · simp only [Act.put, List.setIfInBounds_toArray, List.set_cons_zero, List.set_cons_succ, i64_w, i32_w]
    rfl
  refine take_ (i := 22) (N := some 31) (v := ?_) (a' := ?_) #[true, true, true, true, true, true, true, true, true, true, true, true, true, true, true, true, true, true, true, true, true, true, true, true, false, false, false, false, false, false, false, false, false, false, false, false] rfl rfl (take_ofW HT_.out HW_.out (by kernel_rfl)) (fun _ _ _ h => h) (Or.inl ⟨by rfl, ?_⟩) hHeld ?_ ?_
  rotate_left
  · rintro w' ⟨s0, s1, s2⟩
    go_simp
    with_reducible rfl
  rotate_left
  · simp only [Act.put, List.setIfInBounds_toArray, List.set_cons_zero, List.set_cons_succ, i64_w, i32_w]
    rfl
  refine take_ (i := 24) (N := some 33) (v := ?_) (a' := ?_) #[true, true, true, true, true, true, true, true, true, true, true, true, true, true, true, true, true, true, true, true, true, true, true, true, true, false, false, false, false, false, false, false, false, false, false, false] rfl rfl (take_ofW HT_.out HW_.out (by kernel_rfl)) (fun _ _ _ h => h) (Or.inl ⟨by rfl, ?_⟩) hHeld ?_ ?_
  rotate_left
  · rintro w' ⟨s0, s1, s2⟩
    go_simp
    with_reducible rfl
  rotate_left
  · simp only [Act.put, List.setIfInBounds_toArray, List.set_cons_zero, List.set_cons_succ, i64_w, i32_w]
    rfl
  refine pure_ (i := 25) (N := some 34) (v := ?_) (a' := ?_) #[true, true, true, true, true, true, true, true, true, true, true, true, true, true, true, true, true, true, true, true, true, true, true, true, true, true, false, false, false, false, false, false, false, false, false, false] rfl rfl (any_of HT_.out (by kernel_rfl)) (fun _ _ _ h => h) (Or.inl ⟨by rfl, ?_⟩) ?_ ?_
  rotate_left
  · intro w'
    go_simp
    with_reducible rfl
  rotate_left
  · simp only [Act.put, List.setIfInBounds_toArray, List.set_cons_zero, List.set_cons_succ, i64_w, i32_w]
    rfl
  refine take_ (i := 27) (N := some 36) (v := ?_) (a' := ?_) #[true, true, true, true, true, true, true, true, true, true, true, true, true, true, true, true, true, true, true, true, true, true, true, true, true, true, false, true, false, false, false, false, false, false, false, false] rfl rfl (take_ofW HT_.out HW_.out (by kernel_rfl)) (fun _ _ _ h => h) (Or.inl ⟨by rfl, ?_⟩) hHeld ?_ ?_
  rotate_left
  · rintro w' ⟨s0, s1, s2⟩
    go_simp
    with_reducible rfl
  rotate_left
  · simp only [Act.put, List.setIfInBounds_toArray, List.set_cons_zero, List.set_cons_succ, i64_w, i32_w]
    rfl
  refine one_ (i := 26) (N := some 35) #[true, true, true, true, true, true, true, true, true, true, true, true, true, true, true, true, true, true, true, true, true, true, true, true, true, true, true, true, false, false, false, false, false, false, false, false] rfl rfl (one_of HT_.out (by kernel_rfl)) (by decide) (fun K hK => ?_)
  refine goes_ Try.func28 (by kernel_rfl) rfl #[.int .i64 (wrap64 (1 - t))] (by rfl) rfl rfl (by (try simp only [List.map_toArray, List.map_cons, List.map_nil]); first | done | rfl) ?_
  refine (impl_inField.calls (wrap64 (1 - t)) (iv.inF (wrap64 (1 - t))) _ rfl).mono ?_
  rintro e wf ⟨rfl, ⟨nd, rfl⟩⟩
  refine ⟨_, rfl, ?_⟩
  have m0_ := Aside0.mk (Kd.S_drewN SU.out nd)
  have m1_ := Aside0.mk (pw_below_drewN HB2.out nd)
  have k0_ : (World.drewN w10 nd).cell? ⟨gU, k1.toNat, none⟩ = some (.slice (some ⟨gA, 0, none⟩) m cA) := hA2
  have k1_ : (World.drewN w10 nd).cell? ⟨gU, kz.toNat, none⟩ = some (.slice (some ⟨gB, 0, none⟩) m cB) := hB2_
  have k2_ : (World.drewN w10 nd).cell? ⟨gt, 0, none⟩ = some (.int .i64 t) := hzt
  clear SU HB2 hA2 hB2_ hzt hHeld
  generalize World.drewN w10 nd = w10 at m0_ m1_ k0_ k1_ k2_ ⊢
  have SU := m0_
  have HB2 := m1_
  clear m0_ m1_
  refine hK.out _ _ ⟨k0_, k1_, k2_⟩ (fun hHeld => ?_)
  clear hK K
  have hA2 := k0_
  have hB2_ := k1_
  have hzt := k2_
  clear k0_ k1_ k2_
  refine norm_ (a' := ?_) ?_ ?_
  rotate_left
  · show Act.put _ (some 35) _ = _
    simp only [Act.put, List.setIfInBounds_toArray, List.set_cons_zero, List.set_cons_succ, i64_w, i32_w]
    rfl
  obtain ⟨gA2, cA2, gB2, cB2, hA3, hB3_, bA, bB, kA_, kB_, ⟨u1, hz1⟩, hf1, ⟨u2, hz2⟩, hf2, ⟨u3, hz3⟩, hf3, ⟨u4, hz4⟩, hf4, HM4⟩ := four SU.out HSQ'.out (k1) (kz) HAB.out.1.1 HAB.out.1.2 HAB.out.2.1 HAB.out.2.2 (iv.inF (wrap64 (1 - t))) (t) (1) (0) 
  clear kA_ kB_
  have e1_ := Option.some.inj (hA3.symm.trans hA2)
  cases e1_
  have e2_ := Option.some.inj (hB3_.symm.trans hB2_)
  cases e2_
  clear hA3 hB3_
  have HM4_ := Aside0.mk HM4
  clear HM4
  refine pure_ (i := 28) (N := some 37) (v := ?_) (a' := ?_) #[true, true, true, true, true, true, true, true, true, true, true, true, true, true, true, true, true, true, true, true, true, true, true, true, true, true, true, true, true, false, false, false, false, false, false, false] rfl rfl (any_of HT_.out (by kernel_rfl)) (fun _ _ _ h => h) (Or.inl ⟨by rfl, ?_⟩) ?_ ?_
  rotate_left
  · intro w'
    go_simp
    with_reducible rfl
  rotate_left
  · simp only [Act.put, List.setIfInBounds_toArray, List.set_cons_zero, List.set_cons_succ, i64_w, i32_w]
    rfl
  refine one_ (i := 29) (N := none) #[true, true, true, true, true, true, true, true, true, true, true, true, true, true, true, true, true, true, true, true, true, true, true, true, true, true, true, true, true, true, false, false, false, false, false, false] rfl rfl (one_of HT_.out (by kernel_rfl)) (by decide) (fun K hK => ?_)
  refine skip_ (w1 := ?_) (by rfl) rfl ?_ ?_
  rotate_left
  · first | (go_simp; done) | (go_simp; rfl)
  have ne1_ : gA ≠ gU := four_ne SU.out HSQ'.out k1 HAB.out.1.1 HAB.out.1.2 hA2
  have ne2_ : gA ≠ gt := fun e_ => by have h1_ := World.block_lt_of_cell? W _ HCT.out; have h2_ := bA; rw [e_] at h2_; exact absurd h1_ (Nat.not_lt.2 h2_)
  refine hK.out _ _ ⟨cell_far hA2 ne1_, cell_far hB2_ ne1_, cell_far hzt ne2_⟩ (fun hHeld => ?_)
  clear hK K
  refine pure_ (i := 30) (N := some 38) (v := ?_) (a' := ?_) #[true, true, true, true, true, true, true, true, true, true, true, true, true, true, true, true, true, true, true, true, true, true, true, true, true, true, true, true, true, true, true, false, false, false, false, false] rfl rfl (any_of HT_.out (by kernel_rfl)) (fun _ _ _ h => h) (Or.inl ⟨by rfl, ?_⟩) ?_ ?_
  rotate_left
  · intro w'
    go_simp
    with_reducible rfl
  rotate_left
  · simp only [Act.put, List.setIfInBounds_toArray, List.set_cons_zero, List.set_cons_succ, i64_w, i32_w]
    rfl
  refine last_ (i := 31) (N := none) #[true, true, true, true, true, true, true, true, true, true, true, true, true, true, true, true, true, true, true, true, true, true, true, true, true, true, true, true, true, true, true, true, false, false, false, false] rfl rfl (one_of HT_.out (by kernel_rfl)) (by decide) (fun K hK => ?_)
  refine skip_ (w1 := ?_) (by rfl) rfl ?_ ?_
  rotate_left
  · first | (go_simp; done) | (go_simp; rfl)
  refine hK.out _ _ ?_
  clear hK K
  refine pure_ (i := 32) (N := some 39) (v := ?_) (a' := ?_) #[true, true, true, true, true, true, true, true, true, true, true, true, true, true, true, true, true, true, true, true, true, true, true, true, true, true, true, true, true, true, true, true, true, false, false, false] rfl rfl (any_of HT_.out (by kernel_rfl)) (fun _ _ _ h => h) (Or.inl ⟨by rfl, ?_⟩) ?_ ?_
  rotate_left
  · intro w'
    go_simp
    with_reducible rfl
  rotate_left
  · simp only [Act.put, List.setIfInBounds_toArray, List.set_cons_zero, List.set_cons_succ, i64_w, i32_w]
    rfl
  refine last_ (i := 33) (N := none) #[true, true, true, true, true, true, true, true, true, true, true, true, true, true, true, true, true, true, true, true, true, true, true, true, true, true, true, true, true, true, true, true, true, true, false, false] rfl rfl (one_of HT_.out (by kernel_rfl)) (by decide) (fun K hK => ?_)
  refine skip_ (w1 := ?_) (by rfl) rfl ?_ ?_
  rotate_left
  · first | (go_simp; done) | (go_simp; rfl)
  refine hK.out _ _ ?_
  clear hK K
  refine pure_ (i := 34) (N := some 40) (v := ?_) (a' := ?_) #[true, true, true, true, true, true, true, true, true, true, true, true, true, true, true, true, true, true, true, true, true, true, true, true, true, true, true, true, true, true, true, true, true, true, true, false] rfl rfl (any_of HT_.out (by kernel_rfl)) (fun _ _ _ h => h) (Or.inl ⟨by rfl, ?_⟩) ?_ ?_
  rotate_left
  · intro w'
    go_simp
    with_reducible rfl
  rotate_left
  · simp only [Act.put, List.setIfInBounds_toArray, List.set_cons_zero, List.set_cons_succ, i64_w, i32_w]
    rfl
  refine last_ (i := 35) (N := none) #[true, true, true, true, true, true, true, true, true, true, true, true, true, true, true, true, true, true, true, true, true, true, true, true, true, true, true, true, true, true, true, true, true, true, true, true] rfl rfl (one_of HT_.out (by kernel_rfl)) (by decide) (fun K hK => ?_)
  refine skip_ (w1 := ?_) (by rfl) rfl ?_ ?_
  rotate_left
  · first | (go_simp; done) | (go_simp; rfl)
  refine hK.out _ _ ?_
  clear hK K
  refine done_ (done_of HT_.out (by kernel_rfl)) ?_
  have HB4 : Aside0 (Below W.heap.size W ((((World.setCell w10 ⟨gA, k1.toNat, none⟩ (.int .i64 (iv.inF (wrap64 (1 - t))))).setCell ⟨gA, kz.toNat, none⟩ (.int .i64 t)).setCell ⟨gB, k1.toNat, none⟩ (.int .i64 1)).setCell ⟨gB, kz.toNat, none⟩ (.int .i64 0))) := ⟨below_set (below_set (below_set (below_set HB2.out bA) bA) bB) bB⟩
  have HM5 : Aside0 (Mx 2 22 ((((World.setCell w10 ⟨gA, k1.toNat, none⟩ (.int .i64 (iv.inF (wrap64 (1 - t))))).setCell ⟨gA, kz.toNat, none⟩ (.int .i64 t)).setCell ⟨gB, k1.toNat, none⟩ (.int .i64 1)).setCell ⟨gB, kz.toNat, none⟩ (.int .i64 0)) W.heap.size (fun _ => True) (.slice (some ⟨gU, 0, none⟩) m cU) (pi.bs t kz U)) := ⟨by unfold pi.bs; rw [HW1b.out]; exact HM4_.out⟩
  clear SU HB2 hz1 hf1 hz2 hf2 hz3 hf3 hz4 hf4 HM4_ hA2 hB2_ hzt hHeld HT_ HW_
  generalize ((((World.setCell w10 ⟨gA, k1.toNat, none⟩ (.int .i64 (iv.inF (wrap64 (1 - t))))).setCell ⟨gA, kz.toNat, none⟩ (.int .i64 t)).setCell ⟨gB, k1.toNat, none⟩ (.int .i64 1)).setCell ⟨gB, kz.toNat, none⟩ (.int .i64 0)) = w11 at HM5 HB4 ⊢
  have HB2 := HB4
  clear HB4
  go_wp2
  go_ret
  exact ⟨_, rfl, (by (with_reducible repeat (first | apply Kd.S_alloc | apply Kd.S_drewN | apply Kd.S_drew)); exact HM5.out), (by repeat (first | (with_reducible first | exact HB2.out | apply below_alloc | apply pw_below_drewN | apply below_drew1) | exact HB2.out))⟩
def pi_inv (k : Nat) (B : List (List Int)) : Option (List (List Int)) := (impl_inverseIn.f k B).bind fun x => some x.1
def pi_prod (k : Nat) (base : Int → Option (List (List Int))) (n : Int) (l : List Int) : Option (List (List Int)) := if 1 ≤ n ∧ n ≤ 28 ∧ pi.lim l then (impl_unitIn.f k n).bind fun U => pi.go (pi.ownG n.toNat base (pi_inv k)) (fun A B => impl_multiplyIn.f k A B) l U else none
theorem pi_prod_mono (k : Nat) (b b' : Int → Option (List (List Int))) (hb : ∀ z, LeO (b z) (b' z)) (n : Int) (l : List Int) : LeO (pi_prod k b n l) (pi_prod (k + 1) b' n l) := by
  unfold pi_prod
  refine LeO.ite (LeO.bind (impl_unitIn.mono _ _) (fun _ => ?_)) (LeO.refl _)
  exact pi.go_mono _ _ _ _ (fun z => pi.ownG_mono _ _ _ _ _ hb (fun B => by unfold pi_inv; exact LeO.bind (impl_inverseIn.mono _ _) (fun _ => LeO.refl _)) z) (fun A B => impl_multiplyIn.mono _ _ _) _ _
theorem zeroISS (w : World) : (zeroValue 26).run Try.prog w = .ok (.slice none 0 0) w := by kernel_rfl
set_option maxHeartbeats 8000000 in
set_option maxRecDepth 100000 in
theorem product_calls (k : Nat) (n s0 : Int) (A1 : Option Addr) (c1 : Nat) (l1 : List Int) (F : FuncId) (fn : Func) (FR : Array Value) (base : Int → Option (List (List Int))) (r : List (List Int)) (w : World) (hf : Try.prog.funcs[F]? = some fn) (hname : (fn.name == "runtime.NumGoroutine") = false) (hbd : fn.body.isSome = true) (hr1 : Kd.C (Kd.int .i64) w A1 l1.length l1) (hc1 : l1.length ≤ c1)
    (hcall : ∀ (kz : Int) (B : List (List Int)) (W : World), Below w.heap.size w W → base kz = some B → Calls Try.prog F (#[.int .i64 kz] ++ FR) W fun e w' => ∃ v0_ : Value, e = .returned v0_ ∧ Kd.S (Kd.slice 2 (Kd.int .i64)) 22 w' W.heap.size (fun _ => True) v0_ B ∧ Below W.heap.size W w')
    (h : pi_prod k base n l1 = some r) : Calls Try.prog 25 #[.agg #[.int .i64 s0, .slice A1 l1.length c1], .int .i64 n, .func (.func F) #[] FR] w fun e w' => ∃ v0_ : Value, e = .returned v0_ ∧ Kd.S (Kd.slice 2 (Kd.int .i64)) 22 w' w.heap.size (fun _ => True) v0_ r ∧ Below w.heap.size w w' := by
  have hu := Try.underlying29
  have hmm := @run_makeMap Try.prog
  have HR0 := Aside0.mk hr1
  have HC0 := Aside0.mk hc1
  have HB := Aside0.mk (Below.refl w.heap.size w)
  have HF := Aside0.mk (And.intro hf (And.intro hname hbd))
  have HCALL := Aside0.mk hcall
  clear hr1 hc1 hf hname hbd hcall
  unfold pi_prod at h
  by_cases hg : 1 ≤ n ∧ n ≤ 28 ∧ pi.lim l1
  case neg => rw [if_neg hg] at h; cases h
  rw [if_pos hg] at h
  have HN := Aside0.mk (And.intro hg.1 hg.2.1)
  have HG := Aside0.mk hg.2.2
  clear hg
  obtain ⟨U, HU_, H1_⟩ := Option.bind_eq_some_iff.mp h
  clear h
  have HU := Aside0.mk HU_
  have H1 := Aside0.mk H1_
  clear HU_ H1_
  obtain ⟨m, hm⟩ : ∃ m : Nat, n = m := ⟨n.toNat, by have := HN.out; omega⟩
  subst hm
  rw [Int.toNat_natCast] at H1
  go_enter Try.func25, Try.ntmps25
  go_wp2_with (first | ((with_reducible refine gate_dst (N := 3) rfl ?_); refine box_event ?hg (N := 3) ?hd (cs := #[.int .i64 s0, .slice A1 l1.length c1]) (t := 29) ?hr ?_; (case hd => rfl); (case hg => rfl); (case hr => first | (go_simp; done) | (go_simp; rfl)); intro gb hg w1 hbox hb; have n_ := Aside0.mk (below_step (by repeat (first | (with_reducible first | exact HB.out | apply below_alloc | apply pw_below_drewN | apply below_drew1) | exact HB.out)) hb); clear HB; have HB := n_; clear n_; have HCB1 := Aside0.mk ((blk_cell hbox 1).trans rfl); have HB2 := Aside0.mk (Below.refl w1.heap.size w1); have HR1 := Aside0.mk (Kd.C_below HR0.out HB.out); clear hg hb hbox) | ((with_reducible refine gate_callee (f := 27) rfl ?_); obtain ⟨gm, hgm⟩ : ∃ x, w1.heap.size = x := ⟨_, rfl⟩; have hom := World.ownsMap_made w1 Try.prog 2 RH; have hb1 : Below w1.heap.size w1 (w1.alloc (.map #[] 0)) := below_alloc (Below.refl _ _) _; rw [hgm] at hom ⊢; generalize w1.alloc (.map #[] 0) = w2 at hom hb1 ⊢; have HGM := Aside0.mk hgm; have OM := Aside0.mk hom; clear HB2; have HB2 := Aside0.mk hb1; clear hom hb1 hgm; refine goesL_ (some 13) rfl rfl Try.func27 (by kernel_rfl) rfl #[.int .i64 (m : Int)] rfl (by (try simp only [List.map_toArray, List.map_cons, List.map_nil]); first | done | rfl) ?_; (refine (impl_unitIn.calls k (m : Int) U _ HU.out).mono ?_); rintro e w3 ⟨v13, rfl, ho, hb⟩; refine ⟨_, rfl, ?_⟩; have SO := Aside0.mk (apart_old ho OM.out.lt (below_size (by repeat (first | (with_reducible first | exact HB2.out | apply below_alloc | apply pw_below_drewN | apply below_drew1) | exact HB2.out)))); have n_ := Aside0.mk (OM.out.kept (grown_of_below hb none) (by simp)); clear OM; have OM := n_; clear n_; have n_ := Aside0.mk (below_step (by repeat (first | (with_reducible first | exact HB2.out | apply below_alloc | apply pw_below_drewN | apply below_drew1) | exact HB2.out)) hb); clear HB2; have HB2 := n_; clear n_; clear hb ho; have hzb := (HB2.out.cell (World.block_lt_of_cell? w1 _ HCB1.out)).trans HCB1.out))
  (try clear hzb)
  go_loopg [8, 17] (l1.length + 1) (fun kq v8 v17 wr => ∃ (i : Int) (q : Nat) (O : List (List Int)) (D : DataW Value) (nn : Nat), v17 = .int .i64 i ∧ Aside0 (q < kq) ∧ Aside0 ((q : Int) + i = (l1.length : Int) ∧ 0 ≤ i) ∧ Aside0 (pi.go (pi.ownG m base (pi_inv k)) (fun A B => impl_multiplyIn.f k A B) (l1.drop i.toNat) O = some r) ∧ Aside0 (nn ≤ 2 * i.toNat) ∧ Aside0 (Kd.S (Kd.slice 2 (Kd.int .i64)) 22 wr w1.heap.size (fun k_ => some k_ ≠ some gm) v8 O) ∧ Aside0 (World.ownsMap wr Try.prog 2 RH gm nn D) ∧ Aside0 (Known 2 22 wr w1.heap.size gm m (pi.ownG m base (pi_inv k)) D) ∧ Aside0 (Below w1.heap.size w1 wr))
  case atStart => exact ⟨0, l1.length, U, .map [], 0, (by first | rfl | (simp; done) | (simp [*]; done)), ⟨by omega⟩, ⟨by omega⟩, H1, ⟨by omega⟩, ⟨(by (with_reducible repeat (first | apply Kd.S_alloc | apply Kd.S_drewN | apply Kd.S_drew)); exact SO.out)⟩, ⟨OM.out⟩, ⟨Known.made⟩, ⟨(by repeat (first | (with_reducible first | exact HB2.out | apply below_alloc | apply pw_below_drewN | apply below_drew1) | exact HB2.out))⟩⟩
  case round =>
    clear SO OM HB2 H1
    obtain ⟨i, q, O, D, nn, rfl, HQ, HI, H1, HNN, SO, OM, KN, HB2⟩ := hrel
    obtain ⟨wk, rfl⟩ : ∃ x, x = wr := ⟨_, rfl⟩
    cases gk with
    | zero => exact absurd HQ.out (Nat.not_lt_zero _)
    | succ k1_ =>
    cases q with
    | zero =>
      have cib : decide (i < (l1.length : Int)) = false := decide_eq_false (by have := HI.out; omega)
      have HF2 : Aside0 (O = r) := ⟨by have h_ := H1.out; rw [List.drop_of_length_le (by have := HI.out; omega)] at h_; exact Option.some.inj h_⟩
      rw [HF2.out] at SO
      go_wp2
      go_ret
      exact ⟨_, rfl, Kd.S_lower (Kd.S_mono (by (with_reducible repeat (first | apply Kd.S_alloc | apply Kd.S_drewN | apply Kd.S_drew)); exact SO.out) (fun _ _ => trivial)) (below_size HB.out), below_step HB.out (by repeat (first | (with_reducible first | exact HB2.out | apply below_alloc | apply pw_below_drewN | apply below_drew1) | exact HB2.out))⟩
    | succ q =>
      have hi0 : 0 ≤ i := HI.out.2
      have hi1 : i < (l1.length : Int) := by have := HI.out; omega
      have cib : decide (i < (l1.length : Int)) = true := decide_eq_true hi1
      obtain ⟨ad, e1, hz_⟩ := Kd.at_int HR1.out i hi0 hi1
      cases e1
      have hz := (HB2.out.cell (World.block_lt_of_cell? w1 _ hz_)).trans hz_
      have hkz := HG.out.at_ i hi0 hi1
      have HA1 := H1.out
      rw [pi.drop_cons l1 i hi0 hi1] at HA1
      clear H1
      have ppi : (0 ≤ i) = True := eq_true hi0
      have qqi : (i < (l1.length : Int)) = True := eq_true hi1
      have HI0 := Aside0.mk hi0
      have HI1 := Aside0.mk hi1
      clear hi0 hi1 hz_
      obtain ⟨z, hzz⟩ : ∃ z, rd l1 i = z := ⟨_, rfl⟩
      rw [hzz] at hz hkz HA1
      clear hzz
      have HKEY : Aside0 (keyOf Try.prog 2 (.int .i64 z) = some (.int .i64 z)) := ⟨Maps.keyOf_int_mk Try.underlying2 (WalkArith.wf_i64 (by omega))⟩
      have HZR := Aside0.mk hkz
      clear hkz
      unfold pi.go at HA1
      obtain ⟨A, HO_, HA2⟩ := Option.bind_eq_some_iff.mp HA1
      clear HA1
      obtain ⟨O', HT_, H1_⟩ := Option.bind_eq_some_iff.mp HA2
      clear HA2
      have HT := Aside0.mk HT_
      have H1 := Aside0.mk H1_
      have HOWN := Aside0.mk HO_
      clear HT_ H1_ HO_
      have HOWN2 := Aside0.mk (pi.ownG_some HOWN.out)
      have HNM : Aside0 (nn + 2 < maxLen) := ⟨by have := HNN.out; have := HI1.out; have := HI0.out; have := HG.out.1; unfold maxLen; omega⟩
      obtain ⟨v23, hrun, hv_⟩ := lookH OM.out (Maps.int_keyed Try.underlying2) Try.underlying60 (zeroISS wk) z HKEY.out
      have HV := Aside0.mk hv_
      clear hv_
      obtain ⟨AO, cO, eO⟩ := Kd.S_slice SO.out
      subst eO
      rcases KN.out z v23 HV.out with e_ | ⟨A9, h1_, h2_, h3_⟩
      case inr =>
        have e_ := Option.some.inj (h1_.symm.trans HOWN.out)
        subst e_
        obtain ⟨gF, cF, e_, _, _, _⟩ := Kd.S_form h3_ (by rw [h2_]; have := HN.out; omega)
        subst e_
        have SA := Aside0.mk h3_
        clear h1_ h2_ h3_
        have hnil : (binOp .eql 26 (.slice (some ⟨gF, 0, none⟩) A9.length cF) (.slice none 0 0)).run Try.prog wk = .ok (.bool false) wk := Lib.run_eql_slice_nil wk 26 22 _ _ _ _ _ Try.underlying26
        go_wp2_with (first | ((with_reducible refine gate_callee (f := 48) rfl ?_); refine goesL_ (some 46) rfl rfl Try.func48 (by kernel_rfl) rfl #[.slice AO O.length cO, .slice (some ⟨gF, 0, none⟩) A9.length cF] rfl (by (try simp only [List.map_toArray, List.map_cons, List.map_nil]); first | done | rfl) ?_; (refine (impl_multiplyIn.calls k AO cO O (some ⟨gF, 0, none⟩) cF A9 O' _ ?side1 ?side2 ?side3 ?side4 HT.out).mono ?_); (case side1 => repeat (first | exact (Kd.S_reads' SO.out).2.2 | (with_reducible refine Kd.C_alloc ?_ _) | (with_reducible refine Kd.C_drewN ?_ _) | (with_reducible refine Kd.C_drew ?_))); (case side2 => exact (Kd.S_reads' SO.out).2.1); (case side3 => repeat (first | exact (Kd.S_reads' SA.out).2.2 | (with_reducible refine Kd.C_alloc ?_ _) | (with_reducible refine Kd.C_drewN ?_ _) | (with_reducible refine Kd.C_drew ?_))); (case side4 => exact (Kd.S_reads' SA.out).2.1); rintro e wm ⟨vm, rfl, ho, hb⟩; refine ⟨_, rfl, ?_⟩; have SN := Aside0.mk (apart_old ho OM.out.lt (below_size (by repeat (first | (with_reducible first | exact HB2.out | apply below_alloc | apply pw_below_drewN | apply below_drew1) | exact HB2.out)))); have n_ := Aside0.mk (OM.out.kept (grown_of_below hb none) (by simp)); clear OM; have OM := n_; clear n_; have n_ := Aside0.mk (KN.out.below hb); clear KN; have KN := n_; clear n_; have n_ := Aside0.mk (Kd.S_below SA.out hb); clear SA; have SA := n_; clear n_; have n_ := Aside0.mk (below_step (by repeat (first | (with_reducible first | exact HB2.out | apply below_alloc | apply pw_below_drewN | apply below_drew1) | exact HB2.out)) hb); clear HB2; have HB2 := n_; clear n_; clear hb ho))
        go_roundg k1_
        case measure => omega
        case rel =>
          have HW := Aside0.mk (show wrap64 (i + 1) = i + 1 by have := HI0.out; have := HI1.out; have := HG.out.1; unfold wrap64; omega)
          exact ⟨wrap64 (i + 1), q, O', D, nn, (by first | rfl | (simp; done) | (simp [*]; done)), ⟨by have := HQ.out; omega⟩, ⟨by have := HI.out; rw [HW.out]; omega⟩, ⟨by rw [HW.out]; exact H1.out⟩, ⟨by have := HNN.out; have := HI0.out; rw [HW.out]; omega⟩, ⟨(by (with_reducible repeat (first | apply Kd.S_alloc | apply Kd.S_drewN | apply Kd.S_drew)); exact SN.out)⟩, OM, KN, ⟨(by repeat (first | (with_reducible first | exact HB2.out | apply below_alloc | apply pw_below_drewN | apply below_drew1) | exact HB2.out))⟩⟩
      case inl =>
        subst e_
        have hnil : (binOp .eql 26 (.slice none 0 0) (.slice none 0 0)).run Try.prog wk = .ok (.bool true) wk := Lib.run_eql_slice_nil wk 26 22 _ _ _ _ _ Try.underlying26
        have HO3 := HOWN2.out.1
        unfold pi.own at HO3
        obtain ⟨B, HB_, HI_⟩ := Option.bind_eq_some_iff.mp HO3
        clear HO3
        have HBASE := Aside0.mk HB_
        have HINV := Aside0.mk HI_
        clear HB_ HI_
        obtain ⟨kz, hK⟩ : ∃ x, pi.ks z = x := ⟨_, rfl⟩
        rw [hK] at HBASE
        have HSZ : Aside0 (impl_size.f z = some kz) := ⟨by unfold impl_size.f; rw [← hK]; rfl⟩
        clear hK
        by_cases ez : z < 0
        case neg =>
          have czb : decide (z < 0) = false := decide_eq_false ez
          have h_ := HINV.out
          rw [if_neg ez] at h_
          have h_ := Option.some.inj h_
          subst h_
          go_wp2_with (first | ((with_reducible refine gate_callee (f := 46) rfl ?_); refine goesL_ (some 29) rfl rfl Try.func46 (by kernel_rfl) rfl #[.int .i64 z] rfl (by (try simp only [List.map_toArray, List.map_cons, List.map_nil]); first | done | rfl) ?_; (with_reducible refine (impl_size.calls z kz _ HSZ.out).mono ?_); rintro e w' ⟨rfl, ⟨nd, rfl⟩⟩; refine ⟨_, rfl, ?_⟩; (first | (rw [drewN_self wk]; generalize hq_ : World.drewN wk _ = w3) | (rw [drew_self wk]; generalize hq1_ : World.drew wk = w3; have hq_ : World.drewN wk 1 = w3 := hq1_; clear hq1_) | (rw [show wk = World.drewN wk 0 from rfl]; generalize hq_ : World.drewN wk 0 = w3)); have n_ := Aside0.mk (Kd.S_at hq_ SO.out); clear SO; have SO := n_; clear n_; have n_ := Aside0.mk (own_at hq_ OM.out); clear OM; have OM := n_; clear n_; have n_ := Aside0.mk (Known.at_ hq_ KN.out); clear KN; have KN := n_; clear n_; have n_ := Aside0.mk (ar_below_at hq_ HB2.out); clear HB2; have HB2 := n_; clear n_; clear hq_) | ((with_reducible refine gate_dst (N := 30) rfl ?_); refine goesF_ (some 30) rfl rfl HF.out.1 HF.out.2.1 HF.out.2.2 #[.int .i64 kz] FR rfl rfl (by (try simp only [List.map_toArray, List.map_cons, List.map_nil]); first | done | rfl) ?_; (refine (HCALL.out kz B w3 (below_step HB.out HB2.out) HBASE.out).mono ?_); rintro e w4 ⟨v30, rfl, ho, hb⟩; refine ⟨_, rfl, ?_⟩; have SB := Aside0.mk (apart_old ho OM.out.lt (below_size (by repeat (first | (with_reducible first | exact HB2.out | apply below_alloc | apply pw_below_drewN | apply below_drew1) | exact HB2.out)))); have n_ := Aside0.mk (Kd.S_below SO.out hb); clear SO; have SO := n_; clear n_; have n_ := Aside0.mk (OM.out.kept (grown_of_below hb none) (by simp)); clear OM; have OM := n_; clear n_; have n_ := Aside0.mk (KN.out.below hb); clear KN; have KN := n_; clear n_; have n_ := Aside0.mk (below_step (by repeat (first | (with_reducible first | exact HB2.out | apply below_alloc | apply pw_below_drewN | apply below_drew1) | exact HB2.out)) hb); clear HB2; have HB2 := n_; clear n_; clear hb ho; obtain ⟨AA, cA9, e_⟩ := Kd.S_slice SB.out; subst e_) | (at_mapUpdate; refine wpList_mapUpdate_own _ rfl (.tmp 25) (.tmp 26) (.tmp 30) 60 rfl 2 26 (Maps.int_keyed Try.underlying2) Try.underlying60 RH gm nn D rfl OM.out (by have := HNM.out; omega) _ _ (.int .i64 z) rfl rfl HKEY.out (.held (.slice AA B.length cA9)) [] rfl ?_; intro w5 hom hgr; have HAT := Aside0.mk (put_same OM.out z (.slice AA B.length cA9)); have n_ := Aside0.mk (Kd.S_grown SO.out hgr (fun _ hk_ => hk_)); clear SO; have SO := n_; clear n_; have n_ := Aside0.mk (Kd.S_grown SB.out hgr (fun _ hk_ => hk_)); clear SB; have SB := n_; clear n_; have n_ := Aside0.mk (KN.out.step hgr); clear KN; have KN := n_; clear n_; have n_ := Aside0.mk (pw_below_grown HB2.out (some gm) (below_size HB2.out) hgr (fun k_ e_ => by cases e_; exact Nat.le_of_eq HGM.out)); clear HB2 OM; have HB2 := n_; have OM := Aside0.mk hom; clear n_ hom hgr) | ((with_reducible refine gate_dst (N := 45) rfl ?_); refine wpList_lookup_held _ rfl _ _ 60 rfl 2 26 (Maps.int_keyed Try.underlying2) Try.underlying60 (zeroISS _) gm (nn + 1) (D.put (.int .i64 z) (.held (.slice AA B.length cA9))) rfl OM.out _ z rfl HKEY.out ?_; intro vl hvl; have e_ := DataW.held.inj (hvl.symm.trans HAT.out); subst e_; clear hvl) | ((with_reducible refine gate_callee (f := 48) rfl ?_); refine goesL_ (some 46) rfl rfl Try.func48 (by kernel_rfl) rfl #[.slice AO O.length cO, .slice AA B.length cA9] rfl (by (try simp only [List.map_toArray, List.map_cons, List.map_nil]); first | done | rfl) ?_; (refine (impl_multiplyIn.calls k AO cO O AA cA9 B O' _ ?side1 ?side2 ?side3 ?side4 HT.out).mono ?_); (case side1 => repeat (first | exact (Kd.S_reads' SO.out).2.2 | (with_reducible refine Kd.C_alloc ?_ _) | (with_reducible refine Kd.C_drewN ?_ _) | (with_reducible refine Kd.C_drew ?_))); (case side2 => exact (Kd.S_reads' SO.out).2.1); (case side3 => repeat (first | exact (Kd.S_reads' SB.out).2.2 | (with_reducible refine Kd.C_alloc ?_ _) | (with_reducible refine Kd.C_drewN ?_ _) | (with_reducible refine Kd.C_drew ?_))); (case side4 => exact (Kd.S_reads' SB.out).2.1); rintro e wm ⟨vm, rfl, ho, hb⟩; refine ⟨_, rfl, ?_⟩; have SN := Aside0.mk (apart_old ho OM.out.lt (below_size (by repeat (first | (with_reducible first | exact HB2.out | apply below_alloc | apply pw_below_drewN | apply below_drew1) | exact HB2.out)))); have n_ := Aside0.mk (OM.out.kept (grown_of_below hb none) (by simp)); clear OM; have OM := n_; clear n_; have n_ := Aside0.mk (KN.out.below hb); clear KN; have KN := n_; clear n_; have n_ := Aside0.mk (Kd.S_below SB.out hb); clear SB; have SB := n_; clear n_; have n_ := Aside0.mk (below_step (by repeat (first | (with_reducible first | exact HB2.out | apply below_alloc | apply pw_below_drewN | apply below_drew1) | exact HB2.out)) hb); clear HB2; have HB2 := n_; clear n_; clear hb ho))
          have n_ := Aside0.mk (KN.out.put z (.slice AA B.length cA9) B (fun k_ hk_ => put_other D z _ k_ hk_) HAT.out HOWN.out HOWN2.out.2 SB.out); clear KN; have KN := n_; clear n_
          go_roundg k1_
          case measure => omega
          case rel =>
            have HW := Aside0.mk (show wrap64 (i + 1) = i + 1 by have := HI0.out; have := HI1.out; have := HG.out.1; unfold wrap64; omega)
            exact ⟨wrap64 (i + 1), q, O', (D.put (.int .i64 z) (.held (.slice AA B.length cA9))), (nn + 1), (by first | rfl | (simp; done) | (simp [*]; done)), ⟨by have := HQ.out; omega⟩, ⟨by have := HI.out; rw [HW.out]; omega⟩, ⟨by rw [HW.out]; exact H1.out⟩, ⟨by have := HNN.out; have := HI0.out; rw [HW.out]; omega⟩, ⟨(by (with_reducible repeat (first | apply Kd.S_alloc | apply Kd.S_drewN | apply Kd.S_drew)); exact SN.out)⟩, OM, KN, ⟨(by repeat (first | (with_reducible first | exact HB2.out | apply below_alloc | apply pw_below_drewN | apply below_drew1) | exact HB2.out))⟩⟩
        case pos =>
          have czb : decide (z < 0) = true := decide_eq_true ez
          have h_ := HINV.out
          rw [if_pos ez] at h_
          unfold pi_inv at h_
          obtain ⟨⟨A', code⟩, HS_, HE_⟩ := Option.bind_eq_some_iff.mp h_
          have HE_ := Option.some.inj HE_
          dsimp only at HE_
          subst HE_
          have HSV := Aside0.mk HS_
          clear h_ HS_
          go_wp2_with (first | ((with_reducible refine gate_callee (f := 46) rfl ?_); refine goesL_ (some 29) rfl rfl Try.func46 (by kernel_rfl) rfl #[.int .i64 z] rfl (by (try simp only [List.map_toArray, List.map_cons, List.map_nil]); first | done | rfl) ?_; (with_reducible refine (impl_size.calls z kz _ HSZ.out).mono ?_); rintro e w' ⟨rfl, ⟨nd, rfl⟩⟩; refine ⟨_, rfl, ?_⟩; (first | (rw [drewN_self wk]; generalize hq_ : World.drewN wk _ = w3) | (rw [drew_self wk]; generalize hq1_ : World.drew wk = w3; have hq_ : World.drewN wk 1 = w3 := hq1_; clear hq1_) | (rw [show wk = World.drewN wk 0 from rfl]; generalize hq_ : World.drewN wk 0 = w3)); have n_ := Aside0.mk (Kd.S_at hq_ SO.out); clear SO; have SO := n_; clear n_; have n_ := Aside0.mk (own_at hq_ OM.out); clear OM; have OM := n_; clear n_; have n_ := Aside0.mk (Known.at_ hq_ KN.out); clear KN; have KN := n_; clear n_; have n_ := Aside0.mk (ar_below_at hq_ HB2.out); clear HB2; have HB2 := n_; clear n_; clear hq_) | ((with_reducible refine gate_dst (N := 30) rfl ?_); refine goesF_ (some 30) rfl rfl HF.out.1 HF.out.2.1 HF.out.2.2 #[.int .i64 kz] FR rfl rfl (by (try simp only [List.map_toArray, List.map_cons, List.map_nil]); first | done | rfl) ?_; (refine (HCALL.out kz B w3 (below_step HB.out HB2.out) HBASE.out).mono ?_); rintro e w4 ⟨v30, rfl, ho, hb⟩; refine ⟨_, rfl, ?_⟩; have SB := Aside0.mk (apart_old ho OM.out.lt (below_size (by repeat (first | (with_reducible first | exact HB2.out | apply below_alloc | apply pw_below_drewN | apply below_drew1) | exact HB2.out)))); have n_ := Aside0.mk (Kd.S_below SO.out hb); clear SO; have SO := n_; clear n_; have n_ := Aside0.mk (OM.out.kept (grown_of_below hb none) (by simp)); clear OM; have OM := n_; clear n_; have n_ := Aside0.mk (KN.out.below hb); clear KN; have KN := n_; clear n_; have n_ := Aside0.mk (below_step (by repeat (first | (with_reducible first | exact HB2.out | apply below_alloc | apply pw_below_drewN | apply below_drew1) | exact HB2.out)) hb); clear HB2; have HB2 := n_; clear n_; clear hb ho; obtain ⟨AA, cA9, e_⟩ := Kd.S_slice SB.out; subst e_) | (at_mapUpdate; refine wpList_mapUpdate_own _ rfl (.tmp 25) (.tmp 26) (.tmp 30) 60 rfl 2 26 (Maps.int_keyed Try.underlying2) Try.underlying60 RH gm nn D rfl OM.out (by have := HNM.out; omega) _ _ (.int .i64 z) rfl rfl HKEY.out (.held (.slice AA B.length cA9)) [] rfl ?_; intro w5 hom hgr; have HAT := Aside0.mk (put_same OM.out z (.slice AA B.length cA9)); have n_ := Aside0.mk (Kd.S_grown SO.out hgr (fun _ hk_ => hk_)); clear SO; have SO := n_; clear n_; have n_ := Aside0.mk (Kd.S_grown SB.out hgr (fun _ hk_ => hk_)); clear SB; have SB := n_; clear n_; have n_ := Aside0.mk (KN.out.step hgr); clear KN; have KN := n_; clear n_; have n_ := Aside0.mk (pw_below_grown HB2.out (some gm) (below_size HB2.out) hgr (fun k_ e_ => by cases e_; exact Nat.le_of_eq HGM.out)); clear HB2 OM; have HB2 := n_; have OM := Aside0.mk hom; clear n_ hom hgr) | ((with_reducible refine gate_dst (N := 38) rfl ?_); refine wpList_lookup_held _ rfl _ _ 60 rfl 2 26 (Maps.int_keyed Try.underlying2) Try.underlying60 (zeroISS _) gm (nn + 1) (D.put (.int .i64 z) (.held (.slice AA B.length cA9))) rfl OM.out _ z rfl HKEY.out ?_; intro vl hvl; have e_ := DataW.held.inj (hvl.symm.trans HAT.out); subst e_; clear hvl) | ((with_reducible refine gate_callee (f := 47) rfl ?_); refine goesL_ (some 39) rfl rfl Try.func47 (by kernel_rfl) rfl #[.slice AA B.length cA9] rfl (by (try simp only [List.map_toArray, List.map_cons, List.map_nil]); first | done | rfl) ?_; (refine (impl_inverseIn.calls k AA cA9 B A' code _ ?side1 ?side2 HSV.out).mono ?_); (case side1 => repeat (first | exact (Kd.S_reads' SB.out).2.2 | (with_reducible refine Kd.C_alloc ?_ _) | (with_reducible refine Kd.C_drewN ?_ _) | (with_reducible refine Kd.C_drew ?_))); (case side2 => exact (Kd.S_reads' SB.out).2.1); rintro e w6 ⟨v39, rfl, ho, hb⟩; refine ⟨_, rfl, ?_⟩; have SA := Aside0.mk (apart_old ho OM.out.lt (below_size (by repeat (first | (with_reducible first | exact HB2.out | apply below_alloc | apply pw_below_drewN | apply below_drew1) | exact HB2.out)))); have n_ := Aside0.mk (Kd.S_below SO.out hb); clear SO; have SO := n_; clear n_; have n_ := Aside0.mk (OM.out.kept (grown_of_below hb none) (by simp)); clear OM; have OM := n_; clear n_; have n_ := Aside0.mk (KN.out.below hb); clear KN; have KN := n_; clear n_; have n_ := Aside0.mk (below_step (by repeat (first | (with_reducible first | exact HB2.out | apply below_alloc | apply pw_below_drewN | apply below_drew1) | exact HB2.out)) hb); clear HB2; have HB2 := n_; clear n_; clear hb ho HAT; obtain ⟨AF, cF, e_⟩ := Kd.S_slice SA.out; subst e_) | (at_mapUpdate; refine wpList_mapUpdate_own _ rfl (.tmp 34) (.tmp 35) (.tmp 40) 60 rfl 2 26 (Maps.int_keyed Try.underlying2) Try.underlying60 RH gm (nn + 1) (D.put (.int .i64 z) (.held (.slice AA B.length cA9))) rfl OM.out (by have := HNM.out; omega) _ _ (.int .i64 z) rfl rfl HKEY.out (.held (.slice AF A'.length cF)) [] rfl ?_; intro w7 hom hgr; have HAT := Aside0.mk (put_same OM.out z (.slice AF A'.length cF)); have n_ := Aside0.mk (Kd.S_grown SO.out hgr (fun _ hk_ => hk_)); clear SO; have SO := n_; clear n_; have n_ := Aside0.mk (Kd.S_grown SA.out hgr (fun _ hk_ => hk_)); clear SA; have SA := n_; clear n_; have n_ := Aside0.mk (KN.out.step hgr); clear KN; have KN := n_; clear n_; have n_ := Aside0.mk (pw_below_grown HB2.out (some gm) (below_size HB2.out) hgr (fun k_ e_ => by cases e_; exact Nat.le_of_eq HGM.out)); clear HB2 OM; have HB2 := n_; have OM := Aside0.mk hom; clear n_ hom hgr) | ((with_reducible refine gate_dst (N := 45) rfl ?_); refine wpList_lookup_held _ rfl _ _ 60 rfl 2 26 (Maps.int_keyed Try.underlying2) Try.underlying60 (zeroISS _) gm (nn + 1 + 1) ((D.put (.int .i64 z) (.held (.slice AA B.length cA9))).put (.int .i64 z) (.held (.slice AF A'.length cF))) rfl OM.out _ z rfl HKEY.out ?_; intro vl hvl; have e_ := DataW.held.inj (hvl.symm.trans HAT.out); subst e_; clear hvl) | ((with_reducible refine gate_callee (f := 48) rfl ?_); refine goesL_ (some 46) rfl rfl Try.func48 (by kernel_rfl) rfl #[.slice AO O.length cO, .slice AF A'.length cF] rfl (by (try simp only [List.map_toArray, List.map_cons, List.map_nil]); first | done | rfl) ?_; (refine (impl_multiplyIn.calls k AO cO O AF cF A' O' _ ?side1 ?side2 ?side3 ?side4 HT.out).mono ?_); (case side1 => repeat (first | exact (Kd.S_reads' SO.out).2.2 | (with_reducible refine Kd.C_alloc ?_ _) | (with_reducible refine Kd.C_drewN ?_ _) | (with_reducible refine Kd.C_drew ?_))); (case side2 => exact (Kd.S_reads' SO.out).2.1); (case side3 => repeat (first | exact (Kd.S_reads' SA.out).2.2 | (with_reducible refine Kd.C_alloc ?_ _) | (with_reducible refine Kd.C_drewN ?_ _) | (with_reducible refine Kd.C_drew ?_))); (case side4 => exact (Kd.S_reads' SA.out).2.1); rintro e wm ⟨vm, rfl, ho, hb⟩; refine ⟨_, rfl, ?_⟩; have SN := Aside0.mk (apart_old ho OM.out.lt (below_size (by repeat (first | (with_reducible first | exact HB2.out | apply below_alloc | apply pw_below_drewN | apply below_drew1) | exact HB2.out)))); have n_ := Aside0.mk (OM.out.kept (grown_of_below hb none) (by simp)); clear OM; have OM := n_; clear n_; have n_ := Aside0.mk (KN.out.below hb); clear KN; have KN := n_; clear n_; have n_ := Aside0.mk (Kd.S_below SA.out hb); clear SA; have SA := n_; clear n_; have n_ := Aside0.mk (below_step (by repeat (first | (with_reducible first | exact HB2.out | apply below_alloc | apply pw_below_drewN | apply below_drew1) | exact HB2.out)) hb); clear HB2; have HB2 := n_; clear n_; clear hb ho))
          have n_ := Aside0.mk (KN.out.put (D' := ((D.put (.int .i64 z) (.held (.slice AA B.length cA9))).put (.int .i64 z) (.held (.slice AF A'.length cF)))) z (.slice AF A'.length cF) A' (fun k_ hk_ => (put_other _ z _ k_ hk_).trans (put_other D z _ k_ hk_)) HAT.out HOWN.out HOWN2.out.2 SA.out); clear KN; have KN := n_; clear n_
          go_roundg k1_
          case measure => omega
          case rel =>
            have HW := Aside0.mk (show wrap64 (i + 1) = i + 1 by have := HI0.out; have := HI1.out; have := HG.out.1; unfold wrap64; omega)
            exact ⟨wrap64 (i + 1), q, O', ((D.put (.int .i64 z) (.held (.slice AA B.length cA9))).put (.int .i64 z) (.held (.slice AF A'.length cF))), (nn + 1 + 1), (by first | rfl | (simp; done) | (simp [*]; done)), ⟨by have := HQ.out; omega⟩, ⟨by have := HI.out; rw [HW.out]; omega⟩, ⟨by rw [HW.out]; exact H1.out⟩, ⟨by have := HNN.out; have := HI0.out; rw [HW.out]; omega⟩, ⟨(by (with_reducible repeat (first | apply Kd.S_alloc | apply Kd.S_drewN | apply Kd.S_drew)); exact SN.out)⟩, OM, KN, ⟨(by repeat (first | (with_reducible first | exact HB2.out | apply below_alloc | apply pw_below_drewN | apply below_drew1) | exact HB2.out))⟩⟩
def impl_BurauModulo.base (k : Nat) (n t z : Int) : Option (List (List Int)) := if 1 ≤ z ∧ z < n ∧ n ≤ 8 then (impl_unitIn.f k n).bind fun U => if iv.Sq n.toNat U then some (pi.bs t z U) else none else none
def impl_BurauModulo.f (k : Nat) (a0_0 : Int) (l0_1 : List Int) (a1 : Int) : Option (List (List Int) × Int) := (impl_IsBraid.f k a0_0 l0_1).bind fun c => if c = true then (impl_isUnit.f a1).bind fun d => if d = true then (pi_prod k (impl_BurauModulo.base k a0_0 a1) a0_0 l0_1).bind fun r => some (r, 0) else some ([], 2) else some ([], 1)
theorem impl_BurauModulo.mono : ∀ a0 a1 a2 k, LeO (impl_BurauModulo.f k a0 a1 a2) (impl_BurauModulo.f (k + 1) a0 a1 a2) := by
  intro a0 a1 a2 k
  unfold impl_BurauModulo.f
  refine LeO.bind (impl_IsBraid.mono _ _ _) (fun _ => LeO.ite (LeO.bind (LeO.refl _) (fun _ => LeO.ite (LeO.bind (pi_prod_mono _ _ _ (fun z => ?_) _ _) (fun _ => LeO.refl _)) (LeO.refl _))) (LeO.refl _))
  unfold impl_BurauModulo.base
  exact LeO.ite (LeO.bind (impl_unitIn.mono _ _) (fun _ => LeO.refl _)) (LeO.refl _)
theorem bu_call (k : Nat) (n t : Int) (gb gt : Nat) (w0 : World) (hb : (w0).cell? ⟨gb, 0, none⟩ = some (.int .i64 n)) (ht : (w0).cell? ⟨gt, 0, none⟩ = some (.int .i64 t)) (kz : Int) (B : List (List Int)) (W : World) (hB : Below w0.heap.size w0 W) (h : impl_BurauModulo.base k n t kz = some B) :
    Calls Try.prog 26 (#[.int .i64 kz] ++ #[.pointer (some ⟨gb, 0, none⟩), .pointer (some ⟨gt, 0, none⟩)]) W fun e w' => ∃ v0_ : Value, e = .returned v0_ ∧ Kd.S (Kd.slice 2 (Kd.int .i64)) 22 w' W.heap.size (fun _ => True) v0_ B ∧ Below W.heap.size W w' := by
  unfold impl_BurauModulo.base at h
  by_cases hg : 1 ≤ kz ∧ kz < n ∧ n ≤ 8
  case neg => rw [if_neg hg] at h; cases h
  rw [if_pos hg] at h
  obtain ⟨U, hU, h2⟩ := Option.bind_eq_some_iff.mp h
  by_cases hq : iv.Sq n.toNat U
  case neg => rw [if_neg hq] at h2; cases h2
  rw [if_pos hq, Option.some.injEq] at h2
  subst h2
  obtain ⟨m, hm⟩ : ∃ m : Nat, n = m := ⟨n.toNat, by omega⟩
  subst hm
  rw [Int.toNat_natCast] at hq
  exact calls_of_args rfl (bu_letter k m (by omega) kz t ⟨by omega, by omega⟩ U hU hq gb gt W ((hB.cell (World.block_lt_of_cell? w0 _ hb)).trans hb) ((hB.cell (World.block_lt_of_cell? w0 _ ht)).trans ht))
set_option maxHeartbeats 8000000 in
set_option maxRecDepth 100000 in
theorem impl_BurauModulo.calls (k : Nat) (a0_0 : Int) (A0_1 : Option Addr) (c0_1 : Nat) (l0_1 : List Int) (a1 : Int) (r1 : List (List Int)) (r2 : Int) (w : World) (hr0_1 : Kd.C (Kd.int .i64) w A0_1 l0_1.length l0_1) (hc0_1 : l0_1.length ≤ c0_1) (h : impl_BurauModulo.f k a0_0 l0_1 a1 = some (r1, r2)) :
    Calls Try.prog 9 #[.agg #[.int .i64 a0_0, .slice A0_1 l0_1.length c0_1], .int .i64 a1] w fun e w' => ∃ v0_ : Value, e = .returned (.tuple #[v0_, .int .i64 r2]) ∧ Kd.S (Kd.slice 2 (Kd.int .i64)) 22 w' w.heap.size (fun _ => True) v0_ r1 ∧ Below w.heap.size w w' := by
  have hu := Try.underlying29
  have HR0 := Aside0.mk hr0_1
  have HC0 := Aside0.mk hc0_1
  clear hr0_1 hc0_1
  have HB := Aside0.mk (Below.refl w.heap.size w)
  have H0 := h
  clear h
  unfold impl_BurauModulo.f at H0
  obtain ⟨t1, A1_, H1⟩ := Option.bind_eq_some_iff.mp H0
  clear H0
  have A1 := Aside0.mk A1_
  clear A1_
  cases t1 with
  | false =>
    simp only [Bool.false_eq_true, if_false, Option.some.injEq, Prod.mk.injEq] at H1
    obtain ⟨rfl, rfl⟩ := H1
    go_enter Try.func9, Try.ntmps9
    go_wp2_with (first | ((with_reducible refine gate_dst (N := 2) rfl ?_); refine box_event ?hg (N := 2) ?hd (cs := #[.int .i64 a0_0, .slice A0_1 l0_1.length c0_1]) (t := 29) ?hr ?_; (case hd => rfl); (case hg => rfl); (case hr => first | (go_simp; done) | (go_simp; rfl)); intro gb hg w1 hbox hb; have n_ := Aside0.mk (below_step (by repeat (first | (with_reducible first | exact HB.out | apply below_alloc | apply pw_below_drewN | apply below_drew1) | exact HB.out)) hb); clear HB; have HB := n_; clear n_; have HCB0 := Aside0.mk ((blk_cell hbox 0).trans rfl); have HCB1 := Aside0.mk ((blk_cell hbox 1).trans rfl); have HB2 := Aside0.mk (Below.refl w1.heap.size w1); have HRA := Aside0.mk (Kd.C_below HR0.out HB.out); clear hg hb; have hzgb_0 := HCB0.out; have hzgb_1 := HCB1.out; clear hbox) | ((with_reducible refine gate_dst (N := 3) rfl ?_); refine box_event ?hg (N := 3) ?hd (cs := #[.int .i64 a1]) (t := 2) ?hr ?_; (case hd => rfl); (case hg => rfl); (case hr => first | (go_simp; done) | (go_simp; rfl)); intro gt hg wt hbox hb; have n_ := Aside0.mk (below_step (by repeat (first | (with_reducible first | exact HB.out | apply below_alloc | apply pw_below_drewN | apply below_drew1) | exact HB.out)) hb); clear HB; have HB := n_; clear n_; have n_ := Aside0.mk ((hb.cell (World.block_lt_of_cell? w1 _ HCB0.out)).trans HCB0.out); clear HCB0; have HCB0 := n_; clear n_; (try clear hzgb_0); have hzgb_0 := HCB0.out; have n_ := Aside0.mk ((hb.cell (World.block_lt_of_cell? w1 _ HCB1.out)).trans HCB1.out); clear HCB1; have HCB1 := n_; clear n_; (try clear hzgb_1); have hzgb_1 := HCB1.out; have HCt := Aside0.mk ((blk_cell hbox 0).trans rfl); have hzt := HCt.out; clear HB2 HRA; have HB2 := Aside0.mk (Below.refl wt.heap.size wt); have HRA := Aside0.mk (Kd.C_below HR0.out HB.out); clear hg hb hbox) | ((with_reducible refine gate_callee (f := 23) rfl ?_); refine goesL_ (some 8) rfl rfl Try.func23 (by kernel_rfl) rfl #[.agg #[.int .i64 a0_0, .slice A0_1 l0_1.length c0_1]] rfl (by (try simp only [List.map_toArray, List.map_cons, List.map_nil]); first | done | rfl) ?_; (with_reducible refine (impl_IsBraid.calls k a0_0 _ _ l0_1 _ _ ?side1 ?side2 A1.out).mono ?_); (case side1 => repeat (first | exact (Kd.C_below HRA.out HB2.out) | (with_reducible refine Kd.C_alloc ?_ _) | (with_reducible refine Kd.C_drewN ?_ _) | (with_reducible refine Kd.C_drew ?_))); (case side2 => exact HC0.out); rintro e wi ⟨rfl, hb⟩; refine ⟨_, rfl, ?_⟩; have n_ := Aside0.mk (below_step (by repeat (first | (with_reducible first | exact HB2.out | apply below_alloc | apply pw_below_drewN | apply below_drew1) | exact HB2.out)) hb); clear HB2; have HB2 := n_; clear n_; clear hb; (try clear hzgb_0); have hzgb_0 := (HB2.out.cell (World.block_lt_of_cell? wt _ HCB0.out)).trans HCB0.out; (try clear hzgb_1); have hzgb_1 := (HB2.out.cell (World.block_lt_of_cell? wt _ HCB1.out)).trans HCB1.out; (try clear hzt); have hzt := (HB2.out.cell (World.block_lt_of_cell? wt _ HCt.out)).trans HCt.out))
    go_ret2
    exact ⟨_, rfl, Kd.S_nil _ _ _ _ _, below_step HB.out (by repeat (first | (with_reducible first | exact HB2.out | apply below_alloc | apply pw_below_drewN | apply below_drew1) | exact HB2.out))⟩
  | true =>
    simp only [if_true] at H1
    obtain ⟨t2, A2_, H2⟩ := Option.bind_eq_some_iff.mp H1
    clear H1
    have A2 := Aside0.mk A2_
    clear A2_
    cases t2 with
    | false =>
      simp only [Bool.false_eq_true, if_false, Option.some.injEq, Prod.mk.injEq] at H2
      obtain ⟨rfl, rfl⟩ := H2
      go_enter Try.func9, Try.ntmps9
      go_wp2_with (first | ((with_reducible refine gate_dst (N := 2) rfl ?_); refine box_event ?hg (N := 2) ?hd (cs := #[.int .i64 a0_0, .slice A0_1 l0_1.length c0_1]) (t := 29) ?hr ?_; (case hd => rfl); (case hg => rfl); (case hr => first | (go_simp; done) | (go_simp; rfl)); intro gb hg w1 hbox hb; have n_ := Aside0.mk (below_step (by repeat (first | (with_reducible first | exact HB.out | apply below_alloc | apply pw_below_drewN | apply below_drew1) | exact HB.out)) hb); clear HB; have HB := n_; clear n_; have HCB0 := Aside0.mk ((blk_cell hbox 0).trans rfl); have HCB1 := Aside0.mk ((blk_cell hbox 1).trans rfl); have HB2 := Aside0.mk (Below.refl w1.heap.size w1); have HRA := Aside0.mk (Kd.C_below HR0.out HB.out); clear hg hb; have hzgb_0 := HCB0.out; have hzgb_1 := HCB1.out; clear hbox) | ((with_reducible refine gate_dst (N := 3) rfl ?_); refine box_event ?hg (N := 3) ?hd (cs := #[.int .i64 a1]) (t := 2) ?hr ?_; (case hd => rfl); (case hg => rfl); (case hr => first | (go_simp; done) | (go_simp; rfl)); intro gt hg wt hbox hb; have n_ := Aside0.mk (below_step (by repeat (first | (with_reducible first | exact HB.out | apply below_alloc | apply pw_below_drewN | apply below_drew1) | exact HB.out)) hb); clear HB; have HB := n_; clear n_; have n_ := Aside0.mk ((hb.cell (World.block_lt_of_cell? w1 _ HCB0.out)).trans HCB0.out); clear HCB0; have HCB0 := n_; clear n_; (try clear hzgb_0); have hzgb_0 := HCB0.out; have n_ := Aside0.mk ((hb.cell (World.block_lt_of_cell? w1 _ HCB1.out)).trans HCB1.out); clear HCB1; have HCB1 := n_; clear n_; (try clear hzgb_1); have hzgb_1 := HCB1.out; have HCt := Aside0.mk ((blk_cell hbox 0).trans rfl); have hzt := HCt.out; clear HB2 HRA; have HB2 := Aside0.mk (Below.refl wt.heap.size wt); have HRA := Aside0.mk (Kd.C_below HR0.out HB.out); clear hg hb hbox) | ((with_reducible refine gate_callee (f := 23) rfl ?_); refine goesL_ (some 8) rfl rfl Try.func23 (by kernel_rfl) rfl #[.agg #[.int .i64 a0_0, .slice A0_1 l0_1.length c0_1]] rfl (by (try simp only [List.map_toArray, List.map_cons, List.map_nil]); first | done | rfl) ?_; (with_reducible refine (impl_IsBraid.calls k a0_0 _ _ l0_1 _ _ ?side1 ?side2 A1.out).mono ?_); (case side1 => repeat (first | exact (Kd.C_below HRA.out HB2.out) | (with_reducible refine Kd.C_alloc ?_ _) | (with_reducible refine Kd.C_drewN ?_ _) | (with_reducible refine Kd.C_drew ?_))); (case side2 => exact HC0.out); rintro e wi ⟨rfl, hb⟩; refine ⟨_, rfl, ?_⟩; have n_ := Aside0.mk (below_step (by repeat (first | (with_reducible first | exact HB2.out | apply below_alloc | apply pw_below_drewN | apply below_drew1) | exact HB2.out)) hb); clear HB2; have HB2 := n_; clear n_; clear hb; (try clear hzgb_0); have hzgb_0 := (HB2.out.cell (World.block_lt_of_cell? wt _ HCB0.out)).trans HCB0.out; (try clear hzgb_1); have hzgb_1 := (HB2.out.cell (World.block_lt_of_cell? wt _ HCB1.out)).trans HCB1.out; (try clear hzt); have hzt := (HB2.out.cell (World.block_lt_of_cell? wt _ HCt.out)).trans HCt.out) | ((with_reducible refine gate_callee (f := 24) rfl ?_); refine goesL_ (some 12) rfl rfl Try.func24 (by kernel_rfl) rfl #[.int .i64 a1] rfl (by (try simp only [List.map_toArray, List.map_cons, List.map_nil]); first | done | rfl) ?_; (with_reducible refine (impl_isUnit.calls a1 _ _ A2.out).mono ?_); rintro e wi ⟨rfl, ⟨nd, rfl⟩⟩; refine ⟨_, rfl, ?_⟩; generalize hq_ : World.drewN _ nd = wj; have n_ := Aside0.mk (ar_below_at hq_ HB2.out); clear HB2; have HB2 := n_; clear n_; clear hq_; (try clear hzgb_0); have hzgb_0 := (HB2.out.cell (World.block_lt_of_cell? wt _ HCB0.out)).trans HCB0.out; (try clear hzgb_1); have hzgb_1 := (HB2.out.cell (World.block_lt_of_cell? wt _ HCB1.out)).trans HCB1.out; (try clear hzt); have hzt := (HB2.out.cell (World.block_lt_of_cell? wt _ HCt.out)).trans HCt.out))
      go_ret2
      exact ⟨_, rfl, Kd.S_nil _ _ _ _ _, below_step HB.out (by repeat (first | (with_reducible first | exact HB2.out | apply below_alloc | apply pw_below_drewN | apply below_drew1) | exact HB2.out))⟩
    | true =>
      simp only [if_true] at H2
      obtain ⟨R, A3_, H3⟩ := Option.bind_eq_some_iff.mp H2
      clear H2
      rw [Option.some.injEq, Prod.mk.injEq] at H3
      obtain ⟨rfl, rfl⟩ := H3
      have A3 := Aside0.mk A3_
      clear A3_
      go_enter Try.func9, Try.ntmps9
      go_wp2_with (first | ((with_reducible refine gate_dst (N := 2) rfl ?_); refine box_event ?hg (N := 2) ?hd (cs := #[.int .i64 a0_0, .slice A0_1 l0_1.length c0_1]) (t := 29) ?hr ?_; (case hd => rfl); (case hg => rfl); (case hr => first | (go_simp; done) | (go_simp; rfl)); intro gb hg w1 hbox hb; have n_ := Aside0.mk (below_step (by repeat (first | (with_reducible first | exact HB.out | apply below_alloc | apply pw_below_drewN | apply below_drew1) | exact HB.out)) hb); clear HB; have HB := n_; clear n_; have HCB0 := Aside0.mk ((blk_cell hbox 0).trans rfl); have HCB1 := Aside0.mk ((blk_cell hbox 1).trans rfl); have HB2 := Aside0.mk (Below.refl w1.heap.size w1); have HRA := Aside0.mk (Kd.C_below HR0.out HB.out); clear hg hb; have hzgb_0 := HCB0.out; have hzgb_1 := HCB1.out; clear hbox) | ((with_reducible refine gate_dst (N := 3) rfl ?_); refine box_event ?hg (N := 3) ?hd (cs := #[.int .i64 a1]) (t := 2) ?hr ?_; (case hd => rfl); (case hg => rfl); (case hr => first | (go_simp; done) | (go_simp; rfl)); intro gt hg wt hbox hb; have n_ := Aside0.mk (below_step (by repeat (first | (with_reducible first | exact HB.out | apply below_alloc | apply pw_below_drewN | apply below_drew1) | exact HB.out)) hb); clear HB; have HB := n_; clear n_; have n_ := Aside0.mk ((hb.cell (World.block_lt_of_cell? w1 _ HCB0.out)).trans HCB0.out); clear HCB0; have HCB0 := n_; clear n_; (try clear hzgb_0); have hzgb_0 := HCB0.out; have n_ := Aside0.mk ((hb.cell (World.block_lt_of_cell? w1 _ HCB1.out)).trans HCB1.out); clear HCB1; have HCB1 := n_; clear n_; (try clear hzgb_1); have hzgb_1 := HCB1.out; have HCt := Aside0.mk ((blk_cell hbox 0).trans rfl); have hzt := HCt.out; clear HB2 HRA; have HB2 := Aside0.mk (Below.refl wt.heap.size wt); have HRA := Aside0.mk (Kd.C_below HR0.out HB.out); clear hg hb hbox) | ((with_reducible refine gate_callee (f := 23) rfl ?_); refine goesL_ (some 8) rfl rfl Try.func23 (by kernel_rfl) rfl #[.agg #[.int .i64 a0_0, .slice A0_1 l0_1.length c0_1]] rfl (by (try simp only [List.map_toArray, List.map_cons, List.map_nil]); first | done | rfl) ?_; (with_reducible refine (impl_IsBraid.calls k a0_0 _ _ l0_1 _ _ ?side1 ?side2 A1.out).mono ?_); (case side1 => repeat (first | exact (Kd.C_below HRA.out HB2.out) | (with_reducible refine Kd.C_alloc ?_ _) | (with_reducible refine Kd.C_drewN ?_ _) | (with_reducible refine Kd.C_drew ?_))); (case side2 => exact HC0.out); rintro e wi ⟨rfl, hb⟩; refine ⟨_, rfl, ?_⟩; have n_ := Aside0.mk (below_step (by repeat (first | (with_reducible first | exact HB2.out | apply below_alloc | apply pw_below_drewN | apply below_drew1) | exact HB2.out)) hb); clear HB2; have HB2 := n_; clear n_; clear hb; (try clear hzgb_0); have hzgb_0 := (HB2.out.cell (World.block_lt_of_cell? wt _ HCB0.out)).trans HCB0.out; (try clear hzgb_1); have hzgb_1 := (HB2.out.cell (World.block_lt_of_cell? wt _ HCB1.out)).trans HCB1.out; (try clear hzt); have hzt := (HB2.out.cell (World.block_lt_of_cell? wt _ HCt.out)).trans HCt.out) | ((with_reducible refine gate_callee (f := 24) rfl ?_); refine goesL_ (some 12) rfl rfl Try.func24 (by kernel_rfl) rfl #[.int .i64 a1] rfl (by (try simp only [List.map_toArray, List.map_cons, List.map_nil]); first | done | rfl) ?_; (with_reducible refine (impl_isUnit.calls a1 _ _ A2.out).mono ?_); rintro e wi ⟨rfl, ⟨nd, rfl⟩⟩; refine ⟨_, rfl, ?_⟩; generalize hq_ : World.drewN _ nd = wj; have n_ := Aside0.mk (ar_below_at hq_ HB2.out); clear HB2; have HB2 := n_; clear n_; clear hq_; (try clear hzgb_0); have hzgb_0 := (HB2.out.cell (World.block_lt_of_cell? wt _ HCB0.out)).trans HCB0.out; (try clear hzgb_1); have hzgb_1 := (HB2.out.cell (World.block_lt_of_cell? wt _ HCB1.out)).trans HCB1.out; (try clear hzt); have hzt := (HB2.out.cell (World.block_lt_of_cell? wt _ HCt.out)).trans HCt.out) | ((with_reducible refine gate_callee (f := 25) rfl ?_); refine goesL_ (some 18) rfl rfl Try.func25 (by kernel_rfl) rfl #[.agg #[.int .i64 a0_0, .slice A0_1 l0_1.length c0_1], .int .i64 a0_0, .func (.func 26) #[] #[.pointer (some ⟨gb, 0, none⟩), .pointer (some ⟨gt, 0, none⟩)]] rfl (by (try simp only [List.map_toArray, List.map_cons, List.map_nil]); first | done | rfl) ?_; (refine (product_calls k a0_0 a0_0 A0_1 c0_1 l0_1 26 _ #[.pointer (some ⟨gb, 0, none⟩), .pointer (some ⟨gt, 0, none⟩)] (impl_BurauModulo.base k a0_0 a1) R _ Try.func26 (by kernel_rfl) rfl ?side1 ?side2 (bu_call k a0_0 a1 gb gt _ hzgb_0 hzt) A3.out).mono ?_); (case side1 => repeat (first | exact (Kd.C_below HRA.out HB2.out) | (with_reducible refine Kd.C_alloc ?_ _) | (with_reducible refine Kd.C_drewN ?_ _) | (with_reducible refine Kd.C_drew ?_))); (case side2 => exact HC0.out); rintro e wi ⟨v18, rfl, ho, hb⟩; refine ⟨_, rfl, ?_⟩; have SA := Aside0.mk (Kd.S_lower ho (below_size (by repeat (first | (with_reducible first | exact HB2.out | apply below_alloc | apply pw_below_drewN | apply below_drew1) | exact HB2.out)))); have n_ := Aside0.mk (below_step (by repeat (first | (with_reducible first | exact HB2.out | apply below_alloc | apply pw_below_drewN | apply below_drew1) | exact HB2.out)) hb); clear HB2; have HB2 := n_; clear n_; clear hb ho))
      go_ret2
      exact ⟨_, rfl, Kd.S_lower (by (with_reducible repeat (first | apply Kd.S_alloc | apply Kd.S_drewN | apply Kd.S_drew)); exact SA.out) (below_size HB.out), below_step HB.out (by repeat (first | (with_reducible first | exact HB2.out | apply below_alloc | apply pw_below_drewN | apply below_drew1) | exact HB2.out))⟩


/-! ### laws_eqInt64S: function 29 -/
def laws_eqInt64S.l0 : Nat → List Int → List Int → Int → Option (Bool)
  | 0, _, _, _ => none
  | k + 1, x0, x1, x5 => if x5 < (x0.length : Int) then (if 0 ≤ x5 then (if x5 < (x1.length : Int) then (if (rd x0 x5) = (rd x1 x5) then (laws_eqInt64S.l0 k x0 x1 (wrap64 (x5 + 1))) else (some false)) else (none)) else (none)) else (some true)
def laws_eqInt64S.f (k : Nat) (l0 : List Int) (l1 : List Int) : Option (Bool) := if (l0.length : Int) = (l1.length : Int) then (laws_eqInt64S.l0 k l0 l1 0) else (some false)
theorem laws_eqInt64S.mono_l : ∀ k, (∀ y0 y1 y2, LeO (laws_eqInt64S.l0 k y0 y1 y2) (laws_eqInt64S.l0 (k + 1) y0 y1 y2))
  | 0 => fun _ _ _ r h => by simp [laws_eqInt64S.l0] at h
  | k + 1 => by
    have ih0 := laws_eqInt64S.mono_l k
    · intro y0 y1 y2
      unfold laws_eqInt64S.l0
      repeat' first
      | (with_reducible exact ih0 _ _ _)
      | (with_reducible exact LeO.refl _)
      | (with_reducible exact LeO.none _)
      | (with_reducible refine LeO.ite ?_ ?_)
      | (with_reducible refine LeO.bind ?_ (fun _ => ?_))
      | exact ih0 _ _ _
      | exact LeO.none _
      | refine LeO.ite ?_ ?_
      | refine LeO.bind ?_ (fun _ => ?_)
theorem laws_eqInt64S.mono : ∀ a0 a1 k, LeO (laws_eqInt64S.f k a0 a1) (laws_eqInt64S.f (k + 1) a0 a1) := by
  intro a0 a1 k
  have ih0 := laws_eqInt64S.mono_l k
  unfold laws_eqInt64S.f
  repeat' first
      | (with_reducible exact ih0 _ _ _)
      | (with_reducible exact LeO.refl _)
      | (with_reducible exact LeO.none _)
      | (with_reducible refine LeO.ite ?_ ?_)
      | (with_reducible refine LeO.bind ?_ (fun _ => ?_))
      | exact ih0 _ _ _
      | exact LeO.none _
      | refine LeO.ite ?_ ?_
      | refine LeO.bind ?_ (fun _ => ?_)
set_option maxHeartbeats 8000000 in
set_option maxRecDepth 100000 in
theorem laws_eqInt64S.calls (k : Nat) (A0 : Option Addr) (c0 : Nat) (l0 : List Int) (A1 : Option Addr) (c1 : Nat) (l1 : List Int) (r : Bool) (w : World) (hr0 : Kd.C (Kd.int .i64) w A0 l0.length l0) (hc0 : l0.length ≤ c0) (hr1 : Kd.C (Kd.int .i64) w A1 l1.length l1) (hc1 : l1.length ≤ c1) (h : laws_eqInt64S.f k l0 l1 = some r) :
    Calls Try.prog 29 #[.slice A0 l0.length c0, .slice A1 l1.length c1] w fun e w' => e = .returned (.bool r) ∧ Drawn0 w w' := by
  have HR0 := Aside0.mk hr0
  have HC0 := Aside0.mk hc0
  clear hr0 hc0
  have HR1 := Aside0.mk hr1
  have HC1 := Aside0.mk hc1
  clear hr1 hc1
  have H : (if (l0.length : Int) = (l1.length : Int) then (laws_eqInt64S.l0 k l0 l1 0) else (some false)) = some r := h
  clear h
  by_cases c3 : (l0.length : Int) = (l1.length : Int)
  · rw [if_pos c3] at H
    have c3b0 : ((l0.length : Int) == (l1.length : Int)) = true := beq_iff_eq.mpr c3
    have c3b1 : ((l0.length : Int) != (l1.length : Int)) = false := bne_eq_false_iff_eq.mpr c3
    have c3b2 : (l0.length == l1.length) = true := by first | simpa using c3 | (simp at c3 ⊢; omega)
    clear c3
    have H' := Aside0.mk H
    clear H
    go_enter Try.func29, Try.ntmps29
    go_wp2
    repeat (go_quiet (fail); try go_wp2)
    go_loopg [5] k (fun kq v5 w' => ∃ (x5_1 : Int), v5 = .int .i64 x5_1 ∧ Aside0 (laws_eqInt64S.l0 kq l0 l1 x5_1 = some r) ∧ Aside0 (kq ≤ k) ∧ Drawn0 w w')
    case atStart => exact ⟨(0), (by first | rfl | (simp; done) | (simp [*]; done)), H', ⟨Nat.le_refl _⟩, by repeat (first | exact Drawn0.refl _ | apply Drawn0.step)⟩
    case round =>
      clear H'
      try clear c1
      try clear c2
      try clear p2
      try clear c3
      try clear c3b0
      try clear c3b1
      try clear c3b2
      obtain ⟨x5_1, rfl, HA, HK1, ⟨m1, rfl⟩⟩ := hrel
      cases gk with
      | zero => exact absurd HA.out (by simp [laws_eqInt64S.l0])
      | succ k1 =>
        have H := HA.out
        clear HA
        simp only [laws_eqInt64S.l0] at H
        by_cases c4 : x5_1 < (l0.length : Int)
        · rw [if_pos c4] at H
          have c4b0 : decide (x5_1 < (l0.length : Int)) = true := decide_eq_true c4
          clear c4
          by_cases c5 : 0 ≤ x5_1
          · rw [if_pos c5] at H
            have c5b0 : decide (0 ≤ x5_1) = true := decide_eq_true c5
            clear c5
            by_cases c6 : x5_1 < (l1.length : Int)
            · rw [if_pos c6] at H
              have c6b0 : decide (x5_1 < (l1.length : Int)) = true := decide_eq_true c6
              clear c6
              by_cases c7 : (rd l0 x5_1) = (rd l1 x5_1)
              · rw [if_pos c7] at H
                have c7b0 : ((rd l0 x5_1) == (rd l1 x5_1)) = true := beq_iff_eq.mpr c7
                have c7b1 : ((rd l0 x5_1) != (rd l1 x5_1)) = false := bne_eq_false_iff_eq.mpr c7
                clear c7
                have H' := Aside0.mk H
                clear H
                have p207 : 0 ≤ (x5_1 : Int) := of_decide_eq_true (by first | (with_reducible assumption) | assumption)
                have q207 : x5_1 < (l0.length : Int) := of_decide_eq_true (by first | (with_reducible assumption) | assumption)
                obtain ⟨ad207, e207, hx207_0⟩ := Kd.at_int HR0.out x5_1 p207 q207
                cases e207
                replace p207 := eq_true p207
                replace q207 := eq_true q207
                have p208 : 0 ≤ (x5_1 : Int) := of_decide_eq_true (by first | (with_reducible assumption) | assumption)
                have q208 : x5_1 < (l1.length : Int) := of_decide_eq_true (by first | (with_reducible assumption) | assumption)
                obtain ⟨ad208, e208, hx208_0⟩ := Kd.at_int HR1.out x5_1 p208 q208
                cases e208
                replace p208 := eq_true p208
                replace q208 := eq_true q208
                go_wp2
                repeat (go_quiet (fail); try go_wp2)
                go_roundg k1
                case measure => have := HK1.out; omega
                case rel => exact ⟨(wrap64 (x5_1 + 1)), (by first | rfl | (simp; done) | (simp [*]; done)), H', ⟨by have := HK1.out; omega⟩, by repeat (first | exact Drawn0.refl _ | apply Drawn0.step)⟩
              · rw [if_neg c7] at H
                have c7b0 : ((rd l0 x5_1) == (rd l1 x5_1)) = false := beq_eq_false_iff_ne.mpr c7
                have c7b1 : ((rd l0 x5_1) != (rd l1 x5_1)) = true := bne_iff_ne.mpr c7
                obtain rfl := Option.some.inj H
                have p207 : 0 ≤ (x5_1 : Int) := of_decide_eq_true (by first | (with_reducible assumption) | assumption)
                have q207 : x5_1 < (l0.length : Int) := of_decide_eq_true (by first | (with_reducible assumption) | assumption)
                obtain ⟨ad207, e207, hx207_0⟩ := Kd.at_int HR0.out x5_1 p207 q207
                cases e207
                replace p207 := eq_true p207
                replace q207 := eq_true q207
                have p208 : 0 ≤ (x5_1 : Int) := of_decide_eq_true (by first | (with_reducible assumption) | assumption)
                have q208 : x5_1 < (l1.length : Int) := of_decide_eq_true (by first | (with_reducible assumption) | assumption)
                obtain ⟨ad208, e208, hx208_0⟩ := Kd.at_int HR1.out x5_1 p208 q208
                cases e208
                replace p208 := eq_true p208
                replace q208 := eq_true q208
                go_wp2
                repeat (go_quiet (fail); try go_wp2)
                go_ret
                exact ⟨by first | rfl | (simp; done) | (simp [*]; done), by repeat (first | exact Drawn0.refl _ | apply Drawn0.step)⟩
            · rw [if_neg c6] at H
              exact absurd H (by simp)
          · rw [if_neg c5] at H
            exact absurd H (by simp)
        · rw [if_neg c4] at H
          have c4b0 : decide (x5_1 < (l0.length : Int)) = false := decide_eq_false c4
          clear c4
          obtain rfl := Option.some.inj H
          go_wp2
          repeat (go_quiet (fail); try go_wp2)
          go_ret
          exact ⟨by first | rfl | (simp; done) | (simp [*]; done), by repeat (first | exact Drawn0.refl _ | apply Drawn0.step)⟩
  · rw [if_neg c3] at H
    have c3b0 : ((l0.length : Int) == (l1.length : Int)) = false := beq_eq_false_iff_ne.mpr c3
    have c3b1 : ((l0.length : Int) != (l1.length : Int)) = true := bne_iff_ne.mpr c3
    have c3b2 : (l0.length == l1.length) = false := by first | simpa using c3 | (simp at c3 ⊢; omega)
    obtain rfl := Option.some.inj H
    go_enter Try.func29, Try.ntmps29
    go_wp2
    repeat (go_quiet (fail); try go_wp2)
    go_ret
    exact ⟨by first | rfl | (simp; done) | (simp [*]; done), by repeat (first | exact Drawn0.refl _ | apply Drawn0.step)⟩

end Go.Proofs.Ytifmdgffimckgaa.MFnExactBurauModulo
