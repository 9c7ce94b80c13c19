-- Walks of the functions that a law reaches, one after the other: plain functions, and that the machine's calls come to what they tell (wip/tools/myprint.py of this repo).
import Derived.Test.YtifmdgffimckgaaMFnExactKrammerTracex0
import Derived.Test.YtifmdgffimckgaaMFnExactKrammerTracex7
import Derived.Test.YtifmdgffimckgaaLibArr
import Derived.Test.YtifmdgffimckgaaLibMx
namespace Go.Proofs.Ytifmdgffimckgaa.MFnExactKrammerTrace
open Go.RowKit Go.Proofs.YtifmdgffimckgaaW.PrintWords Go.Proofs.YtifmdgffimckgaaW.PrintLast Go.Proofs.YtifmdgffimckgaaW.PrintMore
open Go.Proofs.Ytifmdgffimckgaa.LibMx
open Go.Proofs.Ytifmdgffimckgaa.LibArr
attribute [local go_sem] max2_int min2_int max_two min_two max_three min_three max_four min_four   -- for this text's walks alone
set_option linter.unusedVariables false
set_option linter.unusedSimpArgs false

/-! ### impl_inverseIn: function 47 -/
def impl_inverseIn.f (k : Nat) (l0 : List (List Int)) : Option (List (List Int) × Int) := if iv.Sq l0.length l0 ∧ 1 ≤ l0.length ∧ l0.length ≤ 28 then (impl_unitIn.f k (l0.length : Int)).bind fun U => if iv.Sq l0.length U then iv.go (fun x => impl_inverseModulo.f k x 10007) l0.length l0.length 0 l0 U 1 else none else none
theorem impl_inverseIn.mono : ∀ a0 k, LeO (impl_inverseIn.f k a0) (impl_inverseIn.f (k + 1) a0) := by
  intro a0 k
  unfold impl_inverseIn.f
  exact LeO.ite (LeO.bind (impl_unitIn.mono _ _) (fun _ => LeO.ite (iv.go_mono _ _ _ (fun x => impl_inverseModulo.mono _ _ _) _ _ _ _ _) (LeO.refl _))) (LeO.refl _)
def impl_inverseIn.T17 : Bool × List (List Nat × List Nat) := (true, [([], []), ([], []), ([], []), ([], []), ([], []), ([], []), ([4, 5], [4, 5]), ([6], [6]), ([], []), ([], []), ([8, 9], [8, 9]), ([10], [10]), ([0, 1, 0, 1, 4, 5, 6, 7, 11], [0, 1]), ([12, 7, 0, 1, 4, 5, 6, 7, 11], [7, 12]), ([2, 3, 0, 1, 2, 3, 4, 5, 6, 7, 8, 9, 10, 11, 12, 13], [2, 3]), ([14, 11, 13, 0, 1, 2, 3, 4, 5, 6, 7, 8, 9, 10, 11, 12, 13], [11, 14])])
def impl_inverseIn.B17 : List Nat := [0, 0, 0, 0, 0, 0, 48, 112, 0, 0, 768, 1792, 4083, 8179, 16383, 32767]
theorem impl_inverseIn.tab17 : rtab .any (opsOf Try.f47 17) = impl_inverseIn.T17 := by kernel_rfl
theorem impl_inverseIn.bits17 : waitsOk impl_inverseIn.T17.2 impl_inverseIn.B17 = true := by kernel_rfl
def impl_inverseIn.T18 : Bool × List (List Nat × List Nat) := (true, [([], []), ([], []), ([], []), ([], []), ([], []), ([], []), ([4, 5], [4, 5]), ([6], [6]), ([], []), ([], []), ([8, 9], [8, 9]), ([10], [10]), ([0, 1, 0, 1, 4, 5, 6, 7, 11], [0, 1]), ([12, 7, 0, 1, 4, 5, 6, 7, 11], [7, 12]), ([2, 3, 0, 1, 2, 3, 4, 5, 6, 7, 8, 9, 10, 11, 12, 13], [2, 3]), ([14, 11, 13, 0, 1, 2, 3, 4, 5, 6, 7, 8, 9, 10, 11, 12, 13], [11, 14])])
def impl_inverseIn.B18 : List Nat := [0, 0, 0, 0, 0, 0, 48, 112, 0, 0, 768, 1792, 4083, 8179, 16383, 32767]
theorem impl_inverseIn.tab18 : rtab .any (opsOf Try.f47 18) = impl_inverseIn.T18 := by kernel_rfl
theorem impl_inverseIn.bits18 : waitsOk impl_inverseIn.T18.2 impl_inverseIn.B18 = true := by kernel_rfl
def impl_inverseIn.T25 : Bool × List (List Nat × List Nat) := (true, [([], []), ([], []), ([0, 1], [0, 1]), ([2], [2]), ([], []), ([], []), ([], []), ([5, 6], [5, 6]), ([7], [7]), ([], []), ([8, 9], [8, 9]), ([10], [10]), ([], []), ([11, 12], [11, 12]), ([13], [13]), ([3, 4, 0, 1, 2, 3, 4, 5, 6, 7, 8, 9, 10, 11, 12, 13, 14], [3, 4]), ([15, 14, 0, 1, 2, 3, 4, 5, 6, 7, 8, 9, 10, 11, 12, 13, 14], [14, 15])])
def impl_inverseIn.B25 : List Nat := [0, 0, 3, 7, 0, 0, 0, 96, 224, 0, 992, 2016, 0, 8160, 16352, 32767, 65535]
theorem impl_inverseIn.tab25 : rtab .any (opsOf Try.f47 25) = impl_inverseIn.T25 := by kernel_rfl
theorem impl_inverseIn.bits25 : waitsOk impl_inverseIn.T25.2 impl_inverseIn.B25 = true := by kernel_rfl
def impl_inverseIn.T26 : Bool × List (List Nat × List Nat) := (true, [([], []), ([], []), ([0, 1], [0, 1]), ([2], [2]), ([], []), ([], []), ([], []), ([5, 6], [5, 6]), ([7], [7]), ([], []), ([8, 9], [8, 9]), ([10], [10]), ([], []), ([11, 12], [11, 12]), ([13], [13]), ([3, 4, 0, 1, 2, 3, 4, 5, 6, 7, 8, 9, 10, 11, 12, 13, 14], [3, 4]), ([15, 14, 0, 1, 2, 3, 4, 5, 6, 7, 8, 9, 10, 11, 12, 13, 14], [14, 15])])
def impl_inverseIn.B26 : List Nat := [0, 0, 3, 7, 0, 0, 0, 96, 224, 0, 992, 2016, 0, 8160, 16352, 32767, 65535]
theorem impl_inverseIn.tab26 : rtab .any (opsOf Try.f47 26) = impl_inverseIn.T26 := by kernel_rfl
theorem impl_inverseIn.bits26 : waitsOk impl_inverseIn.T26.2 impl_inverseIn.B26 = true := by kernel_rfl
def impl_inverseIn.T36 : Bool × List (List Nat × List Nat) := (true, [([], []), ([], []), ([0, 1], [0, 1]), ([2], [2]), ([], []), ([], []), ([], []), ([5, 6], [5, 6]), ([7], [7]), ([], []), ([8, 9], [8, 9]), ([10], [10]), ([], []), ([], []), ([], []), ([13, 14], [13, 14]), ([15], [15]), ([], []), ([16, 17], [16, 17]), ([18], [18]), ([12, 19], [12, 19]), ([11, 20], [11, 20]), ([21], [21]), ([3, 4, 0, 1, 2, 3, 4, 5, 6, 7, 8, 9, 10, 11, 12, 13, 14, 15, 16, 17, 18, 19, 20, 21, 22], [3, 4]), ([23, 22, 22, 0, 1, 2, 3, 4, 5, 6, 7, 8, 9, 10, 11, 12, 13, 14, 15, 16, 17, 18, 19, 20, 21, 22], [22, 23])])
def impl_inverseIn.B36 : List Nat := [0, 0, 3, 7, 0, 0, 0, 96, 224, 0, 992, 2016, 0, 0, 0, 24576, 57344, 0, 253952, 516096, 1044480, 2097120, 4194272, 8388607, 16777215]
theorem impl_inverseIn.tab36 : rtab .any (opsOf Try.f47 36) = impl_inverseIn.T36 := by kernel_rfl
theorem impl_inverseIn.bits36 : waitsOk impl_inverseIn.T36.2 impl_inverseIn.B36 = true := by kernel_rfl
def impl_inverseIn.T37 : Bool × List (List Nat × List Nat) := (true, [([], []), ([], []), ([0, 1], [0, 1]), ([2], [2]), ([], []), ([], []), ([], []), ([5, 6], [5, 6]), ([7], [7]), ([], []), ([8, 9], [8, 9]), ([10], [10]), ([], []), ([], []), ([], []), ([13, 14], [13, 14]), ([15], [15]), ([], []), ([16, 17], [16, 17]), ([18], [18]), ([12, 19], [12, 19]), ([11, 20], [11, 20]), ([21], [21]), ([3, 4, 0, 1, 2, 3, 4, 5, 6, 7, 8, 9, 10, 11, 12, 13, 14, 15, 16, 17, 18, 19, 20, 21, 22], [3, 4]), ([23, 22, 22, 0, 1, 2, 3, 4, 5, 6, 7, 8, 9, 10, 11, 12, 13, 14, 15, 16, 17, 18, 19, 20, 21, 22], [22, 23])])
def impl_inverseIn.B37 : List Nat := [0, 0, 3, 7, 0, 0, 0, 96, 224, 0, 992, 2016, 0, 0, 0, 24576, 57344, 0, 253952, 516096, 1044480, 2097120, 4194272, 8388607, 16777215]
theorem impl_inverseIn.tab37 : rtab .any (opsOf Try.f47 37) = impl_inverseIn.T37 := by kernel_rfl
theorem impl_inverseIn.bits37 : waitsOk impl_inverseIn.T37.2 impl_inverseIn.B37 = true := by kernel_rfl
set_option maxHeartbeats 8000000 in
set_option maxRecDepth 100000 in
theorem impl_inverseIn.calls (k : Nat) (A0 : Option Addr) (c0 : Nat) (l0 : List (List Int)) (r1 : List (List Int)) (r2 : Int) (w : World) (hr0 : Kd.C (Kd.slice 2 (Kd.int .i64)) w A0 l0.length l0) (hc0 : l0.length ≤ c0) (h : impl_inverseIn.f k l0 = some (r1, r2)) :
    Calls Try.prog 47 #[.slice A0 l0.length c0] w fun e w' => ∃ v0_ : Value, e = .returned (.tuple #[v0_, .int .i64 r2]) ∧ Kd.S (Kd.slice 2 (Kd.int .i64)) 22 w' w.heap.size (fun _ => True) v0_ r1 ∧ Below w.heap.size w w' := by
  have HR0 := Aside0.mk hr0
  have HC0 := Aside0.mk hc0
  clear hr0 hc0
  have HB := Aside0.mk (Below.refl w.heap.size w)
  have H0 := h
  clear h
  unfold impl_inverseIn.f at H0
  by_cases hg : iv.Sq l0.length l0 ∧ 1 ≤ l0.length ∧ l0.length ≤ 28
  case neg => rw [if_neg hg] at H0; cases H0
  rw [if_pos hg] at H0
  obtain ⟨U, A1_, H⟩ := Option.bind_eq_some_iff.mp H0
  clear H0
  by_cases hU : iv.Sq l0.length U
  case neg => rw [if_neg hU] at H; cases H
  rw [if_pos hU] at H
  have HSA := Aside0.mk hg.1
  have HSU := Aside0.mk hU
  have HM := Aside0.mk hg.2
  have A1 := Aside0.mk A1_
  have H' := Aside0.mk H
  clear H hg hU A1_
  go_enter Try.func47, Try.ntmps47
  go_wp2_with (first | ((with_reducible refine gate_dst (N := 19) rfl ?_); refine Kd.S_lit (Kd.slice 2 (Kd.int .i64)) _ 22 ?hg (N := 19) ?hd (xs := ([] : List (List Int))) (inner := []) (ok := fun _ => True) (okp := fun _ => True) ?hr ?hp (fun _ hk => hk) trivial (Below.refl _ _) (Nat.le_refl _) (by simp) ?_; (case hd => rfl); (case hg => rfl); (case hr => first | (go_simp; done) | (go_simp; rfl)); (case hp => exact (Reps.none _ _)); intro v19 w2 ho3 hb hg_ hnew_; clear hg_ hnew_; have SL := Aside0.mk (Kd.S_lower ho3 (below_size (by repeat (first | (with_reducible first | exact HB.out | apply below_alloc | apply pw_below_drewN | apply below_drew1) | exact HB.out)))); have n_ := Aside0.mk (below_step (by repeat (first | (with_reducible first | exact HB.out | apply below_alloc | apply pw_below_drewN | apply below_drew1) | exact HB.out)) hb); clear HB; have HB := n_; clear n_; clear hb ho3) | ((with_reducible refine gate_callee (f := 27) rfl ?_); refine goesL_ (some 21) rfl rfl Try.func27 (by kernel_rfl) rfl #[.int .i64 (l0.length : Int)] rfl (by (try simp only [List.map_toArray, List.map_cons, List.map_nil]); first | done | rfl) ?_; (with_reducible refine (impl_unitIn.calls k (l0.length : Int) U _ A1.out).mono ?_); rintro e w3 ⟨vR, rfl, ho0, hb⟩; refine ⟨_, rfl, ?_⟩; (try rw [drewN_self w2] at ho0 hb); obtain ⟨gR, cR, e_, gb_, gl_, _⟩ := Kd.S_form ho0 (by have := HSU.out.1; have := HM.out; omega); rw [HSU.out.1] at e_; subst e_; obtain ⟨b1, hb1⟩ : ∃ b, b = w2.heap.size := ⟨_, rfl⟩; obtain ⟨b2, hb2⟩ : ∃ b, b = w3.heap.size := ⟨_, rfl⟩; have SL0 := Kd.S_below (by (with_reducible repeat (first | apply Kd.S_alloc | apply Kd.S_drewN | apply Kd.S_drew)); exact SL.out) hb; have HBS := below_size (by repeat (first | (with_reducible first | exact HB.out | apply below_alloc | apply pw_below_drewN | apply below_drew1) | exact HB.out)); have n_ : Aside0 (Mx 2 22 w3 w.heap.size (fun k_ => b1 ≤ k_ ∧ k_ < b2) (.slice (some ⟨gR, 0, none⟩) l0.length cR) U) := ⟨by exact Kd.S_mono (Kd.S_lower (Kd.S_bound ho0) HBS) (fun k_ hk_ => ⟨by rw [hb1]; exact hk_.2.1, by rw [hb2]; exact hk_.2.2.1⟩)⟩; have SR := n_; clear n_; have n_ : Aside0 (Mx 2 22 w3 w.heap.size (fun k_ => ¬ (b1 ≤ k_ ∧ k_ < b2)) v19 []) := ⟨Kd.S_below (Kd.S_mono (Kd.S_bound (by (with_reducible repeat (first | apply Kd.S_alloc | apply Kd.S_drewN | apply Kd.S_drew)); exact SL.out)) (fun k_ hk_ h_ => by have h1_ := h_.1; rw [hb1] at h1_; exact absurd hk_.2.2.1 (Nat.not_lt.2 h1_))) hb⟩; clear SL; have SL := n_; clear n_ SL0; have HP2 : Aside0 (b2 ≤ w3.heap.size) := ⟨by rw [hb2]; exact Nat.le_refl _⟩; have n_ := Aside0.mk (below_step (by repeat (first | (with_reducible first | exact HB.out | apply below_alloc | apply pw_below_drewN | apply below_drew1) | exact HB.out)) hb); clear HB; have HB := n_; clear n_; clear hb ho0 HBS hb1 hb2 gb_ gl_))
  go_loopg [5, 24] 30 (fun kq v5 v24 wr => ∃ (i : Int), v24 = .int .i64 i ∧ Aside0 ((l0.length : Int) - i < kq) ∧ Aside0 (0 ≤ i ∧ i ≤ (l0.length : Int)) ∧ Aside0 (Mx 2 22 wr w.heap.size (fun k_ => ¬ (b1 ≤ k_ ∧ k_ < b2)) v5 (l0.take i.toNat)) ∧ Aside0 (Mx 2 22 wr w.heap.size (fun k_ => b1 ≤ k_ ∧ k_ < b2) (.slice (some ⟨gR, 0, none⟩) l0.length cR) U) ∧ Aside0 (b2 ≤ wr.heap.size) ∧ Aside0 (Below w.heap.size w wr))
  case atStart => exact ⟨0, (by first | rfl | (simp; done) | (simp [*]; done)), ⟨by have := HM.out; omega⟩, ⟨by omega⟩, ⟨(by (with_reducible repeat (first | apply Kd.S_alloc | apply Kd.S_drewN | apply Kd.S_drew)); exact SL.out)⟩, ⟨(by (with_reducible repeat (first | apply Kd.S_alloc | apply Kd.S_drewN | apply Kd.S_drew)); exact SR.out)⟩, HP2, ⟨(by repeat (first | (with_reducible first | exact HB.out | apply below_alloc | apply pw_below_drewN | apply below_drew1) | exact HB.out))⟩⟩
  case round =>
    clear SL SR HP2 HB
    obtain ⟨i, rfl, HQ, HI, SL, SR, HP2, HB⟩ := hrel
    cases gk with
    | zero => exact absurd HQ.out (by have := HI.out; omega)
    | succ k1 =>
      by_cases c1_ : i < (l0.length : Int)
      · have c1b : decide (i < (l0.length : Int)) = true := decide_eq_true c1_
        have p0 : 0 ≤ i := HI.out.1
        have HIL := Aside0.mk c1_
        obtain ⟨ad, A0i, c0i, e1, hx, hl, hi⟩ := at_L1 HR0.out i p0 c1_
        cases e1
        replace hx := (HB.out.cell (World.block_lt_of_cell? w _ hx)).trans hx
        have HRI := Aside0.mk (Kd.C_below hi HB.out)
        have HCI := Aside0.mk hl
        clear hi hl
        have HCP : Aside0 (impl_copyOf.f (rd_L1 l0 i) = some (rd_L1 l0 i)) := ⟨by have h_ : (rd_L1 l0 i).length = l0.length := HSA.out.at i p0 c1_; have := HM.out; simp only [impl_copyOf.f, Option.bind_some, List.nil_append, List.length_nil]; rw [if_pos (by omega)]⟩
        have p1 := eq_true p0
        have q1 := eq_true c1_
        clear p0 c1_
        go_wp2_with (first | ((with_reducible refine gate_callee (f := 56) rfl ?_); refine goesL_ (some 30) rfl rfl Try.func56 (by kernel_rfl) rfl #[.slice A0i (rd_L1 l0 i).length c0i] rfl (by (try simp only [List.map_toArray, List.map_cons, List.map_nil]); first | done | rfl) ?_; (with_reducible refine (impl_copyOf.calls _ _ (rd_L1 l0 i) (rd_L1 l0 i) _ ?side1 ?side2 HCP.out).mono ?_); (case side1 => repeat (first | exact HRI.out | (with_reducible refine Kd.C_alloc ?_ _) | (with_reducible refine Kd.C_drewN ?_ _) | (with_reducible refine Kd.C_drew ?_))); (case side2 => exact HCI.out); rintro e w4 ⟨vc, rfl, ho0, hb⟩; refine ⟨_, rfl, ?_⟩; obtain ⟨Ac, cc, rfl⟩ := Kd.R_slice ho0; have HWB := below_size (by repeat (first | (with_reducible first | exact (Below.refl _ _) | apply below_alloc | apply pw_below_drewN | apply below_drew1) | exact Below.refl _ _) : Below wr.heap.size wr _); have RO := Aside0.mk (Kd.R_lower (Kd.R_mono (Kd.R_bound ho0) (ok' := fun k_ => wr.heap.size ≤ k_) (fun k_ hk_ => hk_.2.1)) (below_size (by repeat (first | (with_reducible first | exact HB.out | apply below_alloc | apply pw_below_drewN | apply below_drew1) | exact HB.out)))); have n_ : Aside0 (Mx 2 22 w4 w.heap.size (fun k_ => (¬ (b1 ≤ k_ ∧ k_ < b2)) ∧ ¬ (wr.heap.size ≤ k_)) u5 (l0.take i.toNat)) := ⟨Kd.S_below (by (with_reducible repeat (first | refine Kd.S_alloc ?_ _ | refine Kd.S_drewN ?_ _ | refine Kd.S_drew ?_)); exact Kd.S_mono (Kd.S_bound SL.out) (fun k_ hk_ => ⟨hk_.1, Nat.not_le.2 hk_.2.2.1⟩)) hb⟩; have HP0 := HP2; have HOB := Kd.S_lt SL.out; have HOB := Aside0.mk HOB; clear SL; have SL := n_; clear n_; have n_ := Aside0.mk (Kd.S_below (by (with_reducible repeat (first | apply Kd.S_alloc | apply Kd.S_drewN | apply Kd.S_drew)); exact SR.out) hb); clear SR; have SR := n_; clear n_; have n_ := Aside0.mk (Nat.le_trans HP2.out (Nat.le_trans HWB (below_size hb))); clear HP2; have HP2 := n_; clear n_; have HWB2 := Aside0.mk (Nat.le_trans HWB (below_size hb)); have n_ := Aside0.mk (below_step (by repeat (first | (with_reducible first | exact HB.out | apply below_alloc | apply pw_below_drewN | apply below_drew1) | exact HB.out)) hb); clear HB; have HB := n_; clear n_; clear hb ho0 HWB) | ((with_reducible refine gate_builtin (b := .append) (xs := #[.tmp 28, .tmp 31]) rfl ?_); at_builtin; refine Kd.S_append (Kd.slice 2 (Kd.int .i64)) (w0 := w) w.heap.size rfl (.tmp 28) (.tmp 31) 26 22 (.slice none 0 0) 24 rfl Try.underlying26 info22 rfl (by decide) (by omega) u5 (l0.take i.toNat) (rd_L1 l0 i) [(.slice Ac (rd_L1 l0 i).length cc : Value)] (fun k_ => ¬ (b1 ≤ k_ ∧ k_ < b2)) (fun k_ => wr.heap.size ≤ k_) rfl rfl ?aP ?aN ?aF ?aO ?aB ?aS ?aL ?_; (case aP => exact Kd.M_row RO.out); (case aN => exact fun k_ hk_ => ⟨fun h_ => by have h1_ := h_.2; have h2_ := hk_; have h3_ := HP0.out; omega, fun e_ => by have h2_ := HOB.out k_ e_.symm; have h3_ := hk_; omega⟩); (case aF => exact fun k_ hk_ h_ => by have h1_ := h_.2; have h2_ := hk_; have h3_ := HP2.out; have h4_ := Nat.le_trans h3_ hk_; omega); (case aO => exact (by (with_reducible repeat (first | apply Kd.S_alloc | apply Kd.S_drewN | apply Kd.S_drew)); exact SL.out)); (case aB => exact (by repeat (first | (with_reducible first | exact HB.out | apply below_alloc | apply pw_below_drewN | apply below_drew1) | exact HB.out))); (case aS => exact below_size (by repeat (first | (with_reducible first | exact HB.out | apply below_alloc | apply pw_below_drewN | apply below_drew1) | exact HB.out))); (case aL => have := HM.out; have := HI.out; have := HIL.out; rw [List.length_take]; omega); intro v5_ w5 ho hb hg hat; have n_ := Aside0.mk ho; have HOK := Kd.S_R SL.out; have n2_ := Aside0.mk (Kd.S_grown (by (with_reducible repeat (first | apply Kd.S_alloc | apply Kd.S_drewN | apply Kd.S_drew)); exact SR.out) hg (fun k_ hk_ e_ => (HOK.1 k_ e_.symm).1 hk_)); clear HOK SL SR; have SL := n_; have SR := n2_; clear n_ n2_; have n_ := Aside0.mk (Nat.le_trans HP2.out hg.size); clear HP2; have HP2 := n_; clear n_; clear HB; have HB := Aside0.mk hb; clear ho hb hg hat))
        go_roundg k1
        case measure => omega
        case rel =>
          have HW := Aside0.mk (show wrap64 (i + 1) = i + 1 by have := HI.out; have := HIL.out; have := HM.out; unfold wrap64; omega)
          have HT : Aside0 (l0.take i.toNat ++ [rd_L1 l0 i] = l0.take (i + 1).toNat) := ⟨by have h0_ := HI.out.1; have h1_ := HIL.out; rw [show (i + 1).toNat = i.toNat + 1 by omega, List.take_add_one, List.getElem?_eq_getElem (by omega)]; unfold rd_L1; rw [List.getD_eq_getElem?_getD, List.getElem?_eq_getElem (by omega)]; rfl⟩
          exact ⟨wrap64 (i + 1), (by first | rfl | (simp; done) | (simp [*]; done)), ⟨by have := HQ.out; rw [HW.out]; omega⟩, ⟨by have := HI.out; have := HIL.out; rw [HW.out]; omega⟩, ⟨by rw [HW.out, ← HT.out]; exact SL.out⟩, SR, HP2, HB⟩
      · have c1b : decide (i < (l0.length : Int)) = false := decide_eq_false c1_
        obtain rfl : i = (l0.length : Int) := by have := HI.out; omega
        have n_ : Aside0 (Mx 2 22 wr w.heap.size (fun k_ => ¬ (b1 ≤ k_ ∧ k_ < b2)) u5 l0) := ⟨by have h_ := SL.out; rw [Int.toNat_natCast, List.take_length] at h_; exact h_⟩
        clear SL
        have SL := n_
        clear n_ c1_ HQ HI
        obtain ⟨gL, cL, e_, _, _, _⟩ := Kd.S_form SL.out (by have := HM.out; omega)
        subst e_
        have HSQA := HSA
        go_wp2
        go_loopg [7, 35] 30 (fun kq v7 v35 wr => ∃ (L R : List (List Int)) (p c : Int) (n : Nat), v7 = .int .i64 p ∧ v35 = .int .i64 c ∧ Aside0 (n < kq) ∧ Aside0 ((n : Int) + c = (l0.length : Int) ∧ 0 ≤ c) ∧ Aside0 (iv.go (fun x => impl_inverseModulo.f k x 10007) l0.length n c L R p = some (r1, r2)) ∧ Aside0 (iv.Sq l0.length L) ∧ Aside0 (iv.Sq l0.length R) ∧ Aside0 (Mx 2 22 wr w.heap.size (fun k_ => ¬ (b1 ≤ k_ ∧ k_ < b2)) (.slice (some ⟨gL, 0, none⟩) l0.length cL) L) ∧ Aside0 (Mx 2 22 wr w.heap.size (fun k_ => b1 ≤ k_ ∧ k_ < b2) (.slice (some ⟨gR, 0, none⟩) l0.length cR) R) ∧ Aside0 (Below w.heap.size w wr))
        case atStart => exact ⟨l0, U, 1, 0, l0.length, (by first | rfl | (simp; done) | (simp [*]; done)), (by first | rfl | (simp; done) | (simp [*]; done)), ⟨by have := HM.out; omega⟩, ⟨by omega⟩, H', HSA, HSU, ⟨(by (with_reducible repeat (first | apply Kd.S_alloc | apply Kd.S_drewN | apply Kd.S_drew)); exact SL.out)⟩, ⟨(by (with_reducible repeat (first | apply Kd.S_alloc | apply Kd.S_drewN | apply Kd.S_drew)); exact SR.out)⟩, ⟨(by repeat (first | (with_reducible first | exact HB.out | apply below_alloc | apply pw_below_drewN | apply below_drew1) | exact HB.out))⟩⟩
        case round =>
          clear SL SR HB H'
          obtain ⟨L, R, p, c, n, rfl, rfl, HQ, HC, HA, HSL, HSR, SL, SR, HB⟩ := hrel
          cases gk with
          | zero => exact absurd HQ.out (Nat.not_lt_zero _)
          | succ k1 =>
          cases n with
          | zero =>
            have H := HA.out
            clear HA
            simp only [iv.go, Option.some.injEq, Prod.mk.injEq] at H
            obtain ⟨rfl, rfl⟩ := H
            have c1b : decide (c < (l0.length : Int)) = false := decide_eq_false (by have := HC.out; omega)
            go_wp2
            go_ret2
            exact ⟨_, rfl, (by first | exact Kd.S_mono SR.out (fun _ _ => trivial) | exact Kd.S_mono (Kd.S_drewN SR.out _) (fun _ _ => trivial) | exact Kd.S_mono (Kd.S_drew SR.out) (fun _ _ => trivial)), (by repeat (first | (with_reducible first | exact HB.out | apply below_alloc | apply pw_below_drewN | apply below_drew1) | exact HB.out))⟩
          | succ n =>
            have hc0 : 0 ≤ c := HC.out.2
            have hc1 : c < (l0.length : Int) := by have := HC.out; omega
            have c1b : decide (c < (l0.length : Int)) = true := decide_eq_true hc1
            have ppc : (0 ≤ c) = True := eq_true (hc0)
            have qqc : (c < (l0.length : Int)) = True := eq_true (hc1)
            obtain ⟨pv, hpv⟩ : ∃ pv, iv.piv c (n + 1) c L = pv := ⟨_, rfl⟩
            have hrg := iv.piv_range c L (n + 1) c
            rw [hpv] at hrg
            have HPV := Aside0.mk (show c ≤ pv ∧ pv ≤ (l0.length : Int) by have := HC.out; omega)
            have H := HA.out
            clear HA
            unfold iv.go at H
            rw [hpv] at H
            have HPE := Aside0.mk hpv
            have H' := Aside0.mk H
            have HC0 := Aside0.mk hc0
            have HC1 := Aside0.mk hc1
            clear H hrg hpv hc0 hc1
            go_upto_block 4 with (fail)
            go_cut [11] (fun v11 wc => v11 = .int .i64 pv ∧ Aside0 (Mx 2 22 wc w.heap.size (fun k_ => ¬ (b1 ≤ k_ ∧ k_ < b2)) (.slice (some ⟨gL, 0, none⟩) l0.length cL) L) ∧ Aside0 (Mx 2 22 wc w.heap.size (fun k_ => b1 ≤ k_ ∧ k_ < b2) (.slice (some ⟨gR, 0, none⟩) l0.length cR) R) ∧ Aside0 (Below w.heap.size w wc))
            case first =>
              go_wp2
              go_loopg [11] 30 (fun kq v11 wr => ∃ (t : Int) (q : Nat), v11 = .int .i64 t ∧ Aside0 (q < kq) ∧ Aside0 ((q : Int) + t = (l0.length : Int) ∧ c ≤ t) ∧ Aside0 (iv.piv c q t L = pv) ∧ Aside0 (Mx 2 22 wr w.heap.size (fun k_ => ¬ (b1 ≤ k_ ∧ k_ < b2)) (.slice (some ⟨gL, 0, none⟩) l0.length cL) L) ∧ Aside0 (Mx 2 22 wr w.heap.size (fun k_ => b1 ≤ k_ ∧ k_ < b2) (.slice (some ⟨gR, 0, none⟩) l0.length cR) R) ∧ Aside0 (Below w.heap.size w wr))
              case atStart => exact ⟨c, n + 1, (by first | rfl | (simp; done) | (simp [*]; done)), ⟨by have := HM.out; have := HC.out; omega⟩, ⟨by have := HC.out; omega⟩, HPE, ⟨(by (with_reducible repeat (first | apply Kd.S_alloc | apply Kd.S_drewN | apply Kd.S_drew)); exact SL.out)⟩, ⟨(by (with_reducible repeat (first | apply Kd.S_alloc | apply Kd.S_drewN | apply Kd.S_drew)); exact SR.out)⟩, ⟨(by repeat (first | (with_reducible first | exact HB.out | apply below_alloc | apply pw_below_drewN | apply below_drew1) | exact HB.out))⟩⟩
              case round =>
                clear SL SR HB
                obtain ⟨t, q, rfl, HQ2, HT, HA, SL, SR, HB⟩ := hrel
                cases gk with
                | zero => exact absurd HQ2.out (Nat.not_lt_zero _)
                | succ k2 =>
                cases q with
                | zero =>
                  have c2b : decide (t < (l0.length : Int)) = false := decide_eq_false (by have := HT.out; omega)
                  have HA := HA.out
                  simp only [iv.piv] at HA
                  subst HA
                  go_wp2
                  go_meet
                  case rel => exact ⟨(by first | rfl | (simp; done) | (simp [*]; done)), ⟨(by (with_reducible repeat (first | apply Kd.S_alloc | apply Kd.S_drewN | apply Kd.S_drew)); exact SL.out)⟩, ⟨(by (with_reducible repeat (first | apply Kd.S_alloc | apply Kd.S_drewN | apply Kd.S_drew)); exact SR.out)⟩, ⟨(by repeat (first | (with_reducible first | exact HB.out | apply below_alloc | apply pw_below_drewN | apply below_drew1) | exact HB.out))⟩⟩
                | succ q =>
                  have ht0 : 0 ≤ t := by have := HT.out; have := HC0.out; omega
                  have ht1 : t < (l0.length : Int) := by have := HT.out; omega
                  have c2b : decide (t < (l0.length : Int)) = true := decide_eq_true ht1
                  have ppt : (0 ≤ t) = True := eq_true (ht0)
                  have qqt : (t < (l0.length : Int)) = True := eq_true (ht1)
                  obtain ⟨grA, crA, hzA, hfA_, hbA_, hkA_, hnA_, hcA_, _⟩ := mx_atm (m := l0.length) SL.out t ht0 ht1 (HSL.out.at _ ht0 ht1) (by have := HM.out; omega)
                  obtain ⟨hvA0, hfA0⟩ := hcA_ c HC0.out HC1.out
                  clear hfA_ hbA_ hkA_ hnA_ hcA_
                  have HA := HA.out
                  unfold iv.piv at HA
                  have HT0 := Aside0.mk ht0
                  have HT1 := Aside0.mk ht1
                  clear ht0 ht1
                  by_cases e3 : iv.gt L t c = 0
                  · have HA := Aside0.mk ((if_pos e3).symm.trans HA)
                    have c3b0 : (iv.gt L t c == 0) = true := beq_iff_eq.mpr e3
                    have c3b1 : (iv.gt L t c != 0) = false := bne_eq_false_iff_eq.mpr e3
                    clear e3
                    go_wp2
                    go_roundg k2
                    case measure => omega
                    case rel =>
                      have HW := Aside0.mk (show wrap64 (t + 1) = t + 1 by have := HT0.out; have := HT1.out; have := HM.out; unfold wrap64; omega)
                      exact ⟨wrap64 (t + 1), q, (by first | rfl | (simp; done) | (simp [*]; done)), ⟨by have := HQ2.out; omega⟩, ⟨by have := HT.out; rw [HW.out]; omega⟩, ⟨by rw [HW.out]; exact HA.out⟩, ⟨(by (with_reducible repeat (first | apply Kd.S_alloc | apply Kd.S_drewN | apply Kd.S_drew)); exact SL.out)⟩, ⟨(by (with_reducible repeat (first | apply Kd.S_alloc | apply Kd.S_drewN | apply Kd.S_drew)); exact SR.out)⟩, ⟨(by repeat (first | (with_reducible first | exact HB.out | apply below_alloc | apply pw_below_drewN | apply below_drew1) | exact HB.out))⟩⟩
                  · have HA := (if_neg e3).symm.trans HA
                    have c3b0 : (iv.gt L t c == 0) = false := beq_eq_false_iff_ne.mpr e3
                    have c3b1 : (iv.gt L t c != 0) = true := bne_iff_ne.mpr e3
                    clear e3
                    subst HA
                    go_wp2
                    go_meet
                    case rel => exact ⟨(by first | rfl | (simp; done) | (simp [*]; done)), ⟨(by (with_reducible repeat (first | apply Kd.S_alloc | apply Kd.S_drewN | apply Kd.S_drew)); exact SL.out)⟩, ⟨(by (with_reducible repeat (first | apply Kd.S_alloc | apply Kd.S_drewN | apply Kd.S_drew)); exact SR.out)⟩, ⟨(by repeat (first | (with_reducible first | exact HB.out | apply below_alloc | apply pw_below_drewN | apply below_drew1) | exact HB.out))⟩⟩
            case rest =>
              clear SL SR HB
              obtain ⟨rfl, SL, SR, HB⟩ := hcut
              have H := H'.out
              clear H'
              by_cases e1 : pv = (l0.length : Int)
              · rw [if_pos e1, Option.some.injEq, Prod.mk.injEq] at H
                obtain ⟨rfl, rfl⟩ := H
                have c4b0 : (pv == (l0.length : Int)) = true := beq_iff_eq.mpr e1
                have c4b1 : (pv != (l0.length : Int)) = false := bne_eq_false_iff_eq.mpr e1
                clear e1
                go_wp2
                go_ret2
                exact ⟨_, rfl, Kd.S_nil _ _ _ _ _, (by repeat (first | (with_reducible first | exact HB.out | apply below_alloc | apply pw_below_drewN | apply below_drew1) | exact HB.out))⟩
              · rw [if_neg e1] at H
                have c4b0 : (pv == (l0.length : Int)) = false := beq_eq_false_iff_ne.mpr e1
                have c4b1 : (pv != (l0.length : Int)) = true := bne_iff_ne.mpr e1
                have HP1 := Aside0.mk (show pv < (l0.length : Int) by have := HPV.out; omega)
                clear e1
                have H' := Aside0.mk H
                clear H
                go_upto_if 59 with (fail)
                go_cut [7] (fun v7 wc => ∃ (L1 R1 : List (List Int)) (p1 : Int), v7 = .int .i64 p1 ∧ Aside0 (iv.go2 (fun x => impl_inverseModulo.f k x 10007) l0.length (iv.go (fun x => impl_inverseModulo.f k x 10007) l0.length n) c L1 R1 p1 = some (r1, r2)) ∧ Aside0 (iv.Sq l0.length L1) ∧ Aside0 (iv.Sq l0.length R1) ∧ Aside0 (Mx 2 22 wc w.heap.size (fun k_ => ¬ (b1 ≤ k_ ∧ k_ < b2)) (.slice (some ⟨gL, 0, none⟩) l0.length cL) L1) ∧ Aside0 (Mx 2 22 wc w.heap.size (fun k_ => b1 ≤ k_ ∧ k_ < b2) (.slice (some ⟨gR, 0, none⟩) l0.length cR) R1) ∧ Aside0 (Below w.heap.size w wc))
                case first =>
                  have H := H'.out
                  clear H'
                  by_cases e2 : pv = c
                  · rw [if_pos e2] at H
                    have c5b0 : (pv == c) = true := beq_iff_eq.mpr e2
                    have c5b1 : (pv != c) = false := bne_eq_false_iff_eq.mpr e2
                    clear e2
                    have H' := Aside0.mk H
                    clear H
                    go_wp2
                    go_meet
                    case rel => exact ⟨L, R, p, (by first | rfl | (simp; done) | (simp [*]; done)), H', HSL, HSR, ⟨(by (with_reducible repeat (first | apply Kd.S_alloc | apply Kd.S_drewN | apply Kd.S_drew)); exact SL.out)⟩, ⟨(by (with_reducible repeat (first | apply Kd.S_alloc | apply Kd.S_drewN | apply Kd.S_drew)); exact SR.out)⟩, ⟨(by repeat (first | (with_reducible first | exact HB.out | apply below_alloc | apply pw_below_drewN | apply below_drew1) | exact HB.out))⟩⟩
                  · rw [if_neg e2] at H
                    have c5b0 : (pv == c) = false := beq_eq_false_iff_ne.mpr e2
                    have c5b1 : (pv != c) = true := bne_iff_ne.mpr e2
                    have HNE := Aside0.mk (show pv.toNat ≠ c.toNat by have := HC0.out; have := HPV.out; omega)
                    clear e2
                    have H' := Aside0.mk H
                    clear H
                    have ppv : (0 ≤ pv) = True := eq_true (by have := HC0.out; have := HPV.out; omega)
                    have qqv : (pv < (l0.length : Int)) = True := eq_true (HP1.out)
                    try go_wp2
                    (first | (rw [drewN_self wc]; generalize hq_ : World.drewN wc _ = w6) | (rw [drew_self wc]; generalize hq1_ : World.drew wc = w6; have hq_ : World.drewN wc 1 = w6 := hq1_; clear hq1_) | (rw [show wc = World.drewN wc 0 from rfl]; generalize hq_ : World.drewN wc 0 = w6))
                    have n_ := Aside0.mk (Kd.S_at hq_ SL.out); clear SL; have SL := n_; clear n_
                    have n_ := Aside0.mk (Kd.S_at hq_ SR.out); clear SR; have SR := n_; clear n_
                    have n_ := Aside0.mk (ar_below_at hq_ HB.out); clear HB; have HB := n_; clear n_
                    clear hq_
                    have n_ := Aside0.mk (Kd.S_drew SL.out); clear SL; have SL := n_; clear n_
                    have n_ := Aside0.mk (Kd.S_drew SR.out); clear SR; have SR := n_; clear n_
                    have n_ := Aside0.mk (below_drew1 HB.out); clear HB; have HB := n_; clear n_
                    obtain ⟨vi0, vj0, hza, hzc, hfa, hfc, hG, hz2, hf2, hsw⟩ := mx_swap SL.out pv.toNat c.toNat (by have := HC0.out; have := HPV.out; have := HP1.out; omega) (by have := HC0.out; have := HC1.out; omega) HNE.out
                    have HG0 := Aside0.mk hG
                    have HSW := Aside0.mk hsw
                    clear hG hsw
                    obtain ⟨grvi0, crvi0, hx_, _⟩ := mx_atm (m := l0.length) SL.out pv (by have := HC0.out; have := HPV.out; omega) HP1.out (HSL.out.at _ (by have := HC0.out; have := HPV.out; omega) HP1.out) (by have := HM.out; omega)
                    have e_ := Option.some.inj (hza.symm.trans hx_)
                    subst e_
                    clear hx_
                    obtain ⟨grvj0, crvj0, hx_, _⟩ := mx_atm (m := l0.length) SL.out c HC0.out HC1.out (HSL.out.at _ HC0.out HC1.out) (by have := HM.out; omega)
                    have e_ := Option.some.inj (hzc.symm.trans hx_)
                    subst e_
                    clear hx_
                    refine start_ (n := 16) (S := fun w' => w'.cell? ⟨gL, c.toNat, none⟩ = some (.slice (some ⟨grvj0, 0, none⟩) l0.length crvj0 : Value) ∧ w'.cell? ⟨gL, pv.toNat, none⟩ = some (.slice (some ⟨grvi0, 0, none⟩) l0.length crvi0 : Value)) (ds := [13, 15]) #[false, false, false, false, false, false, false, false, false, false, false, false, false, false, false, false] (by kernel_rfl) rfl rfl ⟨hzc, hza⟩ (fun hHeld => ?_)
                    refine with_tabW impl_inverseIn.tab17 impl_inverseIn.bits17 (fun HT_ HW_ => ?_)
                    generalize w6.drew = w7 at SL SR HB HSW hza hzc hfa hfc hz2 hf2 hHeld ⊢
                    refine pure_ (i := 0) (N := some 60) (v := ?_) (a' := ?_) #[true, false, false, false, false, false, false, false, false, false, false, false, false, false, false, false] rfl rfl (any_of HT_.out (by kernel_rfl)) (fun _ _ _ h => h) (Or.inl ⟨by rfl, ?_⟩) ?_ ?_
                    rotate_left
                    · intro w'
                      go_simp
                      with_reducible rfl
                    rotate_left
                    · simp only [Act.put, List.setIfInBounds_toArray, List.set_cons_zero, List.set_cons_succ, i64_w, i32_w]
                      rfl
                    refine pure_ (i := 1) (N := some 61) (v := ?_) (a' := ?_) #[true, true, false, false, false, false, false, false, false, false, false, false, false, false, false, false] rfl rfl (any_of HT_.out (by kernel_rfl)) (fun _ _ _ h => h) (Or.inl ⟨by rfl, ?_⟩) ?_ ?_
                    rotate_left
                    · intro w'
                      go_simp
                      with_reducible rfl
                    rotate_left
                    · simp only [Act.put, List.setIfInBounds_toArray, List.set_cons_zero, List.set_cons_succ, i64_w, i32_w]
                      rfl
                    refine pure_ (i := 2) (N := some 62) (v := ?_) (a' := ?_) #[true, true, true, false, false, false, false, false, false, false, false, false, false, false, false, false] rfl rfl (any_of HT_.out (by kernel_rfl)) (fun _ _ _ h => h) (Or.inl ⟨by rfl, ?_⟩) ?_ ?_
                    rotate_left
                    · intro w'
                      go_simp
                      with_reducible rfl
                    rotate_left
                    · simp only [Act.put, List.setIfInBounds_toArray, List.set_cons_zero, List.set_cons_succ, i64_w, i32_w]
                      rfl
                    refine pure_ (i := 3) (N := some 63) (v := ?_) (a' := ?_) #[true, true, true, true, false, false, false, false, false, false, false, false, false, false, false, false] rfl rfl (any_of HT_.out (by kernel_rfl)) (fun _ _ _ h => h) (Or.inl ⟨by rfl, ?_⟩) ?_ ?_
                    rotate_left
                    · intro w'
                      go_simp
                      with_reducible rfl
                    rotate_left
                    · simp only [Act.put, List.setIfInBounds_toArray, List.set_cons_zero, List.set_cons_succ, i64_w, i32_w]
                      rfl
                    refine pure_ (i := 4) (N := some 64) (v := ?_) (a' := ?_) #[true, true, true, true, true, false, false, false, false, false, false, false, false, false, false, false] rfl rfl (any_of HT_.out (by kernel_rfl)) (fun _ _ _ h => h) (Or.inl ⟨by rfl, ?_⟩) ?_ ?_
                    rotate_left
                    · intro w'
                      go_simp
                      with_reducible rfl
                    rotate_left
                    · simp only [Act.put, List.setIfInBounds_toArray, List.set_cons_zero, List.set_cons_succ, i64_w, i32_w]
                      rfl
                    refine pure_ (i := 5) (N := some 65) (v := ?_) (a' := ?_) #[true, true, true, true, true, true, false, false, false, false, false, false, false, false, false, false] rfl rfl (any_of HT_.out (by kernel_rfl)) (fun _ _ _ h => h) (Or.inl ⟨by rfl, ?_⟩) ?_ ?_
                    rotate_left
                    · intro w'
                      go_simp
                      with_reducible rfl
                    rotate_left
                    · simp only [Act.put, List.setIfInBounds_toArray, List.set_cons_zero, List.set_cons_succ, i64_w, i32_w]
                      rfl
                    refine pure_ (i := 6) (N := some 66) (v := ?_) (a' := ?_) #[true, true, true, true, true, true, true, false, false, false, false, false, false, false, false, false] rfl rfl (any_of HT_.out (by kernel_rfl)) (fun _ _ _ h => h) (Or.inl ⟨by rfl, ?_⟩) ?_ ?_
                    rotate_left
                    · intro w'
                      go_simp
                      with_reducible rfl
                    rotate_left
                    · simp only [Act.put, List.setIfInBounds_toArray, List.set_cons_zero, List.set_cons_succ, i64_w, i32_w]
                      rfl
                    refine pure_ (i := 8) (N := some 68) (v := ?_) (a' := ?_) #[true, true, true, true, true, true, true, false, true, false, false, false, false, false, false, false] rfl rfl (any_of HT_.out (by kernel_rfl)) (fun _ _ _ h => h) (Or.inl ⟨by rfl, ?_⟩) ?_ ?_
                    rotate_left
                    · intro w'
                      go_simp
                      with_reducible rfl
                    rotate_left
                    · simp only [Act.put, List.setIfInBounds_toArray, List.set_cons_zero, List.set_cons_succ, i64_w, i32_w]
                      rfl
                    refine pure_ (i := 9) (N := some 69) (v := ?_) (a' := ?_) #[true, true, true, true, true, true, true, false, true, true, false, false, false, false, false, false] rfl rfl (any_of HT_.out (by kernel_rfl)) (fun _ _ _ h => h) (Or.inl ⟨by rfl, ?_⟩) ?_ ?_
                    rotate_left
                    · intro w'
                      go_simp
                      with_reducible rfl
                    rotate_left
                    · simp only [Act.put, List.setIfInBounds_toArray, List.set_cons_zero, List.set_cons_succ, i64_w, i32_w]
                      rfl
                    refine pure_ (i := 10) (N := some 70) (v := ?_) (a' := ?_) #[true, true, true, true, true, true, true, false, true, true, true, false, false, false, false, false] rfl rfl (any_of HT_.out (by kernel_rfl)) (fun _ _ _ h => h) (Or.inl ⟨by rfl, ?_⟩) ?_ ?_
                    rotate_left
                    · intro w'
                      go_simp
                      with_reducible rfl
                    rotate_left
                    · simp only [Act.put, List.setIfInBounds_toArray, List.set_cons_zero, List.set_cons_succ, i64_w, i32_w]
                      rfl
                    refine take_ (i := 7) (N := some 67) (v := ?_) (a' := ?_) #[true, true, true, true, true, true, true, true, true, true, true, false, false, false, false, false] rfl rfl (take_ofW HT_.out HW_.out (by kernel_rfl)) (fun _ _ _ h => h) (Or.inl ⟨by rfl, ?_⟩) hHeld ?_ ?_
                    rotate_left
                    · rintro w' ⟨s0, s1⟩
                      go_simp
                      with_reducible rfl
                    rotate_left
                    · simp only [Act.put, List.setIfInBounds_toArray, List.set_cons_zero, List.set_cons_succ, i64_w, i32_w]
                      rfl
                    refine take_ (i := 11) (N := some 71) (v := ?_) (a' := ?_) #[true, true, true, true, true, true, true, true, true, true, true, true, false, false, false, false] rfl rfl (take_ofW HT_.out HW_.out (by kernel_rfl)) (fun _ _ _ h => h) (Or.inl ⟨by rfl, ?_⟩) hHeld ?_ ?_
                    rotate_left
                    · rintro w' ⟨s0, s1⟩
                      go_simp
                      with_reducible rfl
                    rotate_left
                    · simp only [Act.put, List.setIfInBounds_toArray, List.set_cons_zero, List.set_cons_succ, i64_w, i32_w]
                      rfl
                    refine pure_ (i := 12) (N := some 72) (v := ?_) (a' := ?_) #[true, true, true, true, true, true, true, true, true, true, true, true, true, false, false, false] rfl rfl (any_of HT_.out (by kernel_rfl)) (fun _ _ _ h => h) (Or.inl ⟨by rfl, ?_⟩) ?_ ?_
                    rotate_left
                    · intro w'
                      go_simp
                      with_reducible rfl
                    rotate_left
                    · simp only [Act.put, List.setIfInBounds_toArray, List.set_cons_zero, List.set_cons_succ, i64_w, i32_w]
                      rfl
                    refine last_ (i := 13) (N := none) #[true, true, true, true, true, true, true, true, true, true, true, true, true, true, false, false] rfl rfl (one_of HT_.out (by kernel_rfl)) (by decide) (fun K hK => ?_)
                    refine skip_ (w1 := ?_) (by rfl) rfl ?_ ?_
                    rotate_left
                    · first | (go_simp; done) | (go_simp; rfl)
                    refine hK.out _ _ ?_
                    clear hK K
                    refine pure_ (i := 14) (N := some 73) (v := ?_) (a' := ?_) #[true, true, true, true, true, true, true, true, true, true, true, true, true, true, true, false] rfl rfl (any_of HT_.out (by kernel_rfl)) (fun _ _ _ h => h) (Or.inl ⟨by rfl, ?_⟩) ?_ ?_
                    rotate_left
                    · intro w'
                      go_simp
                      with_reducible rfl
                    rotate_left
                    · simp only [Act.put, List.setIfInBounds_toArray, List.set_cons_zero, List.set_cons_succ, i64_w, i32_w]
                      rfl
                    refine last_ (i := 15) (N := none) #[true, true, true, true, true, true, true, true, true, true, true, true, true, true, true, true] rfl rfl (one_of HT_.out (by kernel_rfl)) (by decide) (fun K hK => ?_)
                    refine skip_ (w1 := ?_) (by rfl) rfl ?_ ?_
                    rotate_left
                    · first | (go_simp; done) | (go_simp; rfl)
                    refine hK.out _ _ ?_
                    clear hK K
                    refine done_ (done_of HT_.out (by kernel_rfl)) ?_
                    have n0_ : Aside0 (Mx 2 22 ((World.setCell w7 ⟨gL, pv.toNat, none⟩ (.slice (some ⟨grvj0, 0, none⟩) l0.length crvj0 : Value)).setCell ⟨gL, c.toNat, none⟩ (.slice (some ⟨grvi0, 0, none⟩) l0.length crvi0 : Value)) w.heap.size (fun k_ => ¬ (b1 ≤ k_ ∧ k_ < b2)) (.slice (some ⟨gL, 0, none⟩) l0.length cL) (iv.swp L pv c)) := ⟨HSW.out⟩
                    have n1_ : Aside0 (Mx 2 22 ((World.setCell w7 ⟨gL, pv.toNat, none⟩ (.slice (some ⟨grvj0, 0, none⟩) l0.length crvj0 : Value)).setCell ⟨gL, c.toNat, none⟩ (.slice (some ⟨grvi0, 0, none⟩) l0.length crvi0 : Value)) w.heap.size (fun k_ => b1 ≤ k_ ∧ k_ < b2) (.slice (some ⟨gR, 0, none⟩) l0.length cR) R) := ⟨mx_far (mx_far SR.out (mx_ok SL.out) _ _) (mx_ok SL.out) _ _⟩
                    have n2_ : Aside0 (Below w.heap.size w ((World.setCell w7 ⟨gL, pv.toNat, none⟩ (.slice (some ⟨grvj0, 0, none⟩) l0.length crvj0 : Value)).setCell ⟨gL, c.toNat, none⟩ (.slice (some ⟨grvi0, 0, none⟩) l0.length crvi0 : Value))) := ⟨below_set (below_set HB.out HG0.out) HG0.out⟩
                    clear HSW hza hzc hfa hfc hz2 hf2 hHeld HT_ HW_
                    clear SL SR HB
                    generalize ((World.setCell w7 ⟨gL, pv.toNat, none⟩ (.slice (some ⟨grvj0, 0, none⟩) l0.length crvj0 : Value)).setCell ⟨gL, c.toNat, none⟩ (.slice (some ⟨grvi0, 0, none⟩) l0.length crvi0 : Value)) = w8 at n0_ n1_ n2_ ⊢
                    have SL := n0_
                    have SR := n1_
                    have HB := n2_
                    clear n0_ n1_ n2_
                    try go_wp2
                    (first | (rw [drewN_self w8]; generalize hq_ : World.drewN w8 _ = w9) | (rw [drew_self w8]; generalize hq1_ : World.drew w8 = w9; have hq_ : World.drewN w8 1 = w9 := hq1_; clear hq1_) | (rw [show w8 = World.drewN w8 0 from rfl]; generalize hq_ : World.drewN w8 0 = w9))
                    have n_ := Aside0.mk (Kd.S_at hq_ SL.out); clear SL; have SL := n_; clear n_
                    have n_ := Aside0.mk (Kd.S_at hq_ SR.out); clear SR; have SR := n_; clear n_
                    have n_ := Aside0.mk (ar_below_at hq_ HB.out); clear HB; have HB := n_; clear n_
                    clear hq_
                    have n_ := Aside0.mk (Kd.S_drew SL.out); clear SL; have SL := n_; clear n_
                    have n_ := Aside0.mk (Kd.S_drew SR.out); clear SR; have SR := n_; clear n_
                    have n_ := Aside0.mk (below_drew1 HB.out); clear HB; have HB := n_; clear n_
                    obtain ⟨vi1, vj1, hza, hzc, hfa, hfc, hG, hz2, hf2, hsw⟩ := mx_swap SR.out pv.toNat c.toNat (by have := HC0.out; have := HPV.out; have := HP1.out; omega) (by have := HC0.out; have := HC1.out; omega) HNE.out
                    have HG1 := Aside0.mk hG
                    have HSW := Aside0.mk hsw
                    clear hG hsw
                    obtain ⟨grvi1, crvi1, hx_, _⟩ := mx_atm (m := l0.length) SR.out pv (by have := HC0.out; have := HPV.out; omega) HP1.out (HSR.out.at _ (by have := HC0.out; have := HPV.out; omega) HP1.out) (by have := HM.out; omega)
                    have e_ := Option.some.inj (hza.symm.trans hx_)
                    subst e_
                    clear hx_
                    obtain ⟨grvj1, crvj1, hx_, _⟩ := mx_atm (m := l0.length) SR.out c HC0.out HC1.out (HSR.out.at _ HC0.out HC1.out) (by have := HM.out; omega)
                    have e_ := Option.some.inj (hzc.symm.trans hx_)
                    subst e_
                    clear hx_
                    refine start_ (n := 16) (S := fun w' => w'.cell? ⟨gR, c.toNat, none⟩ = some (.slice (some ⟨grvj1, 0, none⟩) l0.length crvj1 : Value) ∧ w'.cell? ⟨gR, pv.toNat, none⟩ = some (.slice (some ⟨grvi1, 0, none⟩) l0.length crvi1 : Value)) (ds := [13, 15]) #[false, false, false, false, false, false, false, false, false, false, false, false, false, false, false, false] (by kernel_rfl) rfl rfl ⟨hzc, hza⟩ (fun hHeld => ?_)
                    refine with_tabW impl_inverseIn.tab18 impl_inverseIn.bits18 (fun HT_ HW_ => ?_)
                    generalize w9.drew = w10 at SL SR HB HSW hza hzc hfa hfc hz2 hf2 hHeld ⊢
                    refine pure_ (i := 0) (N := some 74) (v := ?_) (a' := ?_) #[true, false, false, false, false, false, false, false, false, false, false, false, false, false, false, false] rfl rfl (any_of HT_.out (by kernel_rfl)) (fun _ _ _ h => h) (Or.inl ⟨by rfl, ?_⟩) ?_ ?_
                    rotate_left
                    · intro w'
                      go_simp
                      with_reducible rfl
                    rotate_left
                    · simp only [Act.put, List.setIfInBounds_toArray, List.set_cons_zero, List.set_cons_succ, i64_w, i32_w]
                      rfl
                    refine pure_ (i := 1) (N := some 75) (v := ?_) (a' := ?_) #[true, true, false, false, false, false, false, false, false, false, false, false, false, false, false, false] rfl rfl (any_of HT_.out (by kernel_rfl)) (fun _ _ _ h => h) (Or.inl ⟨by rfl, ?_⟩) ?_ ?_
                    rotate_left
                    · intro w'
                      go_simp
                      with_reducible rfl
                    rotate_left
                    · simp only [Act.put, List.setIfInBounds_toArray, List.set_cons_zero, List.set_cons_succ, i64_w, i32_w]
                      rfl
                    refine pure_ (i := 2) (N := some 76) (v := ?_) (a' := ?_) #[true, true, true, false, false, false, false, false, false, false, false, false, false, false, false, false] rfl rfl (any_of HT_.out (by kernel_rfl)) (fun _ _ _ h => h) (Or.inl ⟨by rfl, ?_⟩) ?_ ?_
                    rotate_left
                    · intro w'
                      go_simp
                      with_reducible rfl
                    rotate_left
                    · simp only [Act.put, List.setIfInBounds_toArray, List.set_cons_zero, List.set_cons_succ, i64_w, i32_w]
                      rfl
                    refine pure_ (i := 3) (N := some 77) (v := ?_) (a' := ?_) #[true, true, true, true, false, false, false, false, false, false, false, false, false, false, false, false] rfl rfl (any_of HT_.out (by kernel_rfl)) (fun _ _ _ h => h) (Or.inl ⟨by rfl, ?_⟩) ?_ ?_
                    rotate_left
                    · intro w'
                      go_simp
                      with_reducible rfl
                    rotate_left
                    · simp only [Act.put, List.setIfInBounds_toArray, List.set_cons_zero, List.set_cons_succ, i64_w, i32_w]
                      rfl
                    refine pure_ (i := 4) (N := some 78) (v := ?_) (a' := ?_) #[true, true, true, true, true, false, false, false, false, false, false, false, false, false, false, false] rfl rfl (any_of HT_.out (by kernel_rfl)) (fun _ _ _ h => h) (Or.inl ⟨by rfl, ?_⟩) ?_ ?_
                    rotate_left
                    · intro w'
                      go_simp
                      with_reducible rfl
                    rotate_left
                    · simp only [Act.put, List.setIfInBounds_toArray, List.set_cons_zero, List.set_cons_succ, i64_w, i32_w]
                      rfl
                    refine pure_ (i := 5) (N := some 79) (v := ?_) (a' := ?_) #[true, true, true, true, true, true, false, false, false, false, false, false, false, false, false, false] rfl rfl (any_of HT_.out (by kernel_rfl)) (fun _ _ _ h => h) (Or.inl ⟨by rfl, ?_⟩) ?_ ?_
                    rotate_left
                    · intro w'
                      go_simp
                      with_reducible rfl
                    rotate_left
                    · simp only [Act.put, List.setIfInBounds_toArray, List.set_cons_zero, List.set_cons_succ, i64_w, i32_w]
                      rfl
                    refine pure_ (i := 6) (N := some 80) (v := ?_) (a' := ?_) #[true, true, true, true, true, true, true, false, false, false, false, false, false, false, false, false] rfl rfl (any_of HT_.out (by kernel_rfl)) (fun _ _ _ h => h) (Or.inl ⟨by rfl, ?_⟩) ?_ ?_
                    rotate_left
                    · intro w'
                      go_simp
                      with_reducible rfl
                    rotate_left
                    · simp only [Act.put, List.setIfInBounds_toArray, List.set_cons_zero, List.set_cons_succ, i64_w, i32_w]
                      rfl
                    refine pure_ (i := 8) (N := some 82) (v := ?_) (a' := ?_) #[true, true, true, true, true, true, true, false, true, false, false, false, false, false, false, false] rfl rfl (any_of HT_.out (by kernel_rfl)) (fun _ _ _ h => h) (Or.inl ⟨by rfl, ?_⟩) ?_ ?_
                    rotate_left
                    · intro w'
                      go_simp
                      with_reducible rfl
                    rotate_left
                    · simp only [Act.put, List.setIfInBounds_toArray, List.set_cons_zero, List.set_cons_succ, i64_w, i32_w]
                      rfl
                    refine pure_ (i := 9) (N := some 83) (v := ?_) (a' := ?_) #[true, true, true, true, true, true, true, false, true, true, false, false, false, false, false, false] rfl rfl (any_of HT_.out (by kernel_rfl)) (fun _ _ _ h => h) (Or.inl ⟨by rfl, ?_⟩) ?_ ?_
                    rotate_left
                    · intro w'
                      go_simp
                      with_reducible rfl
                    rotate_left
                    · simp only [Act.put, List.setIfInBounds_toArray, List.set_cons_zero, List.set_cons_succ, i64_w, i32_w]
                      rfl
                    refine pure_ (i := 10) (N := some 84) (v := ?_) (a' := ?_) #[true, true, true, true, true, true, true, false, true, true, true, false, false, false, false, false] rfl rfl (any_of HT_.out (by kernel_rfl)) (fun _ _ _ h => h) (Or.inl ⟨by rfl, ?_⟩) ?_ ?_
                    rotate_left
                    · intro w'
                      go_simp
                      with_reducible rfl
                    rotate_left
                    · simp only [Act.put, List.setIfInBounds_toArray, List.set_cons_zero, List.set_cons_succ, i64_w, i32_w]
                      rfl
                    refine take_ (i := 7) (N := some 81) (v := ?_) (a' := ?_) #[true, true, true, true, true, true, true, true, true, true, true, false, false, false, false, false] rfl rfl (take_ofW HT_.out HW_.out (by kernel_rfl)) (fun _ _ _ h => h) (Or.inl ⟨by rfl, ?_⟩) hHeld ?_ ?_
                    rotate_left
                    · rintro w' ⟨s0, s1⟩
                      go_simp
                      with_reducible rfl
                    rotate_left
                    · simp only [Act.put, List.setIfInBounds_toArray, List.set_cons_zero, List.set_cons_succ, i64_w, i32_w]
                      rfl
                    refine take_ (i := 11) (N := some 85) (v := ?_) (a' := ?_) #[true, true, true, true, true, true, true, true, true, true, true, true, false, false, false, false] rfl rfl (take_ofW HT_.out HW_.out (by kernel_rfl)) (fun _ _ _ h => h) (Or.inl ⟨by rfl, ?_⟩) hHeld ?_ ?_
                    rotate_left
                    · rintro w' ⟨s0, s1⟩
                      go_simp
                      with_reducible rfl
                    rotate_left
                    · simp only [Act.put, List.setIfInBounds_toArray, List.set_cons_zero, List.set_cons_succ, i64_w, i32_w]
                      rfl
                    refine pure_ (i := 12) (N := some 86) (v := ?_) (a' := ?_) #[true, true, true, true, true, true, true, true, true, true, true, true, true, false, false, false] rfl rfl (any_of HT_.out (by kernel_rfl)) (fun _ _ _ h => h) (Or.inl ⟨by rfl, ?_⟩) ?_ ?_
                    rotate_left
                    · intro w'
                      go_simp
                      with_reducible rfl
                    rotate_left
                    · simp only [Act.put, List.setIfInBounds_toArray, List.set_cons_zero, List.set_cons_succ, i64_w, i32_w]
                      rfl
                    refine last_ (i := 13) (N := none) #[true, true, true, true, true, true, true, true, true, true, true, true, true, true, false, false] rfl rfl (one_of HT_.out (by kernel_rfl)) (by decide) (fun K hK => ?_)
                    refine skip_ (w1 := ?_) (by rfl) rfl ?_ ?_
                    rotate_left
                    · first | (go_simp; done) | (go_simp; rfl)
                    refine hK.out _ _ ?_
                    clear hK K
                    refine pure_ (i := 14) (N := some 87) (v := ?_) (a' := ?_) #[true, true, true, true, true, true, true, true, true, true, true, true, true, true, true, false] rfl rfl (any_of HT_.out (by kernel_rfl)) (fun _ _ _ h => h) (Or.inl ⟨by rfl, ?_⟩) ?_ ?_
                    rotate_left
                    · intro w'
                      go_simp
                      with_reducible rfl
                    rotate_left
                    · simp only [Act.put, List.setIfInBounds_toArray, List.set_cons_zero, List.set_cons_succ, i64_w, i32_w]
                      rfl
                    refine last_ (i := 15) (N := none) #[true, true, true, true, true, true, true, true, true, true, true, true, true, true, true, true] rfl rfl (one_of HT_.out (by kernel_rfl)) (by decide) (fun K hK => ?_)
                    refine skip_ (w1 := ?_) (by rfl) rfl ?_ ?_
                    rotate_left
                    · first | (go_simp; done) | (go_simp; rfl)
                    refine hK.out _ _ ?_
                    clear hK K
                    refine done_ (done_of HT_.out (by kernel_rfl)) ?_
                    have n0_ : Aside0 (Mx 2 22 ((World.setCell w10 ⟨gR, pv.toNat, none⟩ (.slice (some ⟨grvj1, 0, none⟩) l0.length crvj1 : Value)).setCell ⟨gR, c.toNat, none⟩ (.slice (some ⟨grvi1, 0, none⟩) l0.length crvi1 : Value)) w.heap.size (fun k_ => ¬ (b1 ≤ k_ ∧ k_ < b2)) (.slice (some ⟨gL, 0, none⟩) l0.length cL) (iv.swp L pv c)) := ⟨mx_far (mx_far SL.out (fun h_ => h_ (mx_ok SR.out)) _ _) (fun h_ => h_ (mx_ok SR.out)) _ _⟩
                    have n1_ : Aside0 (Mx 2 22 ((World.setCell w10 ⟨gR, pv.toNat, none⟩ (.slice (some ⟨grvj1, 0, none⟩) l0.length crvj1 : Value)).setCell ⟨gR, c.toNat, none⟩ (.slice (some ⟨grvi1, 0, none⟩) l0.length crvi1 : Value)) w.heap.size (fun k_ => b1 ≤ k_ ∧ k_ < b2) (.slice (some ⟨gR, 0, none⟩) l0.length cR) (iv.swp R pv c)) := ⟨HSW.out⟩
                    have n2_ : Aside0 (Below w.heap.size w ((World.setCell w10 ⟨gR, pv.toNat, none⟩ (.slice (some ⟨grvj1, 0, none⟩) l0.length crvj1 : Value)).setCell ⟨gR, c.toNat, none⟩ (.slice (some ⟨grvi1, 0, none⟩) l0.length crvi1 : Value))) := ⟨below_set (below_set HB.out HG1.out) HG1.out⟩
                    clear HSW hza hzc hfa hfc hz2 hf2 hHeld HT_ HW_
                    clear SL SR HB
                    generalize ((World.setCell w10 ⟨gR, pv.toNat, none⟩ (.slice (some ⟨grvj1, 0, none⟩) l0.length crvj1 : Value)).setCell ⟨gR, c.toNat, none⟩ (.slice (some ⟨grvi1, 0, none⟩) l0.length crvi1 : Value)) = w11 at n0_ n1_ n2_ ⊢
                    have SL := n0_
                    have SR := n1_
                    have HB := n2_
                    clear n0_ n1_ n2_
                    go_wp2_with (first | ((with_reducible refine gate_callee (f := 28) rfl ?_); refine goesL_ (some 90) rfl rfl Try.func28 (by kernel_rfl) rfl #[.int .i64 (wrap64 (-p))] rfl (by (try simp only [List.map_toArray, List.map_cons, List.map_nil]); first | done | rfl) ?_; (with_reducible refine (impl_inField.calls (wrap64 (-p)) (iv.inF (wrap64 (-p))) _ rfl).mono ?_); rintro e w' ⟨rfl, ⟨nd, rfl⟩⟩; refine ⟨_, rfl, ?_⟩))
                    go_meet
                    case rel => exact ⟨iv.swp L pv c, iv.swp R pv c, iv.inF (wrap64 (-p)), (by first | rfl | (simp; done) | (simp [*]; done)), H', ⟨HSL.out.swp _ _ (by have := HC0.out; have := HPV.out; omega) HP1.out HC0.out HC1.out⟩, ⟨HSR.out.swp _ _ (by have := HC0.out; have := HPV.out; omega) HP1.out HC0.out HC1.out⟩, ⟨(by (with_reducible repeat (first | apply Kd.S_alloc | apply Kd.S_drewN | apply Kd.S_drew)); exact SL.out)⟩, ⟨(by (with_reducible repeat (first | apply Kd.S_alloc | apply Kd.S_drewN | apply Kd.S_drew)); exact SR.out)⟩, ⟨(by repeat (first | (with_reducible first | exact HB.out | apply below_alloc | apply pw_below_drewN | apply below_drew1) | exact HB.out))⟩⟩
                case rest =>
                  clear SL SR HB H' HSL HSR
                  obtain ⟨L1, R1, p1, rfl, HA, HSL, HSR, SL, SR, HB⟩ := hcut
                  have H := HA.out
                  clear HA
                  unfold iv.go2 at H
                  obtain ⟨iv_, A2_, H1⟩ := Option.bind_eq_some_iff.mp H
                  clear H
                  have H := H1
                  clear H1
                  have A2 := Aside0.mk A2_
                  clear A2_
                  obtain ⟨Lf, hLf⟩ : ∃ x, iv.sc iv_ c l0.length 0 L1 = x := ⟨_, rfl⟩
                  obtain ⟨Rf, hRf⟩ : ∃ x, iv.sc iv_ c l0.length 0 R1 = x := ⟨_, rfl⟩
                  rw [hLf, hRf] at H
                  obtain ⟨Z, hZ⟩ : ∃ x, iv.rws l0.length c l0.length 0 Lf Rf = x := ⟨_, rfl⟩
                  rw [hZ] at H
                  have H' := Aside0.mk H
                  have HLf := Aside0.mk hLf
                  have HRf := Aside0.mk hRf
                  have HZ := Aside0.mk hZ
                  clear H hLf hRf hZ
                  obtain ⟨grA, crA, hzA, hfA_, hbA_, hkA_, hnA_, hcA_, _⟩ := mx_atm (m := l0.length) SL.out c HC0.out HC1.out (HSL.out.at _ HC0.out HC1.out) (by have := HM.out; omega)
                  obtain ⟨hvA0, hfA0⟩ := hcA_ c HC0.out HC1.out
                  clear hfA_ hbA_ hkA_ hnA_ hcA_
                  go_wp2_with (first | ((with_reducible refine gate_callee (f := 57) rfl ?_); refine goesL_ (some 108) rfl rfl Try.func57 (by kernel_rfl) rfl #[.int .i64 (iv.gt L1 c c), .int .i64 10007] rfl (by (try simp only [List.map_toArray, List.map_cons, List.map_nil]); first | done | rfl) ?_; (with_reducible refine (impl_inverseModulo.calls k (iv.gt L1 c c) 10007 iv_ _ A2.out).mono ?_); rintro e w' ⟨rfl, ⟨nd, rfl⟩⟩; refine ⟨_, rfl, ?_⟩))
                  go_loopg [110] 30 (fun kq v110 wr => ∃ (La Ra : List (List Int)) (y : Int) (q : Nat), v110 = .int .i64 y ∧ Aside0 (q < kq) ∧ Aside0 ((q : Int) + y = (l0.length : Int) ∧ 0 ≤ y) ∧ Aside0 (iv.sc iv_ c q y La = Lf ∧ iv.sc iv_ c q y Ra = Rf) ∧ Aside0 (iv.Sq l0.length La) ∧ Aside0 (iv.Sq l0.length Ra) ∧ Aside0 (Mx 2 22 wr w.heap.size (fun k_ => ¬ (b1 ≤ k_ ∧ k_ < b2)) (.slice (some ⟨gL, 0, none⟩) l0.length cL) La) ∧ Aside0 (Mx 2 22 wr w.heap.size (fun k_ => b1 ≤ k_ ∧ k_ < b2) (.slice (some ⟨gR, 0, none⟩) l0.length cR) Ra) ∧ Aside0 (Below w.heap.size w wr))
                  case atStart => exact ⟨L1, R1, 0, l0.length, (by first | rfl | (simp; done) | (simp [*]; done)), ⟨by have := HM.out; omega⟩, ⟨by omega⟩, ⟨HLf.out, HRf.out⟩, HSL, HSR, ⟨(by (with_reducible repeat (first | apply Kd.S_alloc | apply Kd.S_drewN | apply Kd.S_drew)); exact SL.out)⟩, ⟨(by (with_reducible repeat (first | apply Kd.S_alloc | apply Kd.S_drewN | apply Kd.S_drew)); exact SR.out)⟩, ⟨(by repeat (first | (with_reducible first | exact HB.out | apply below_alloc | apply pw_below_drewN | apply below_drew1) | exact HB.out))⟩⟩
                  case round =>
                    clear SL SR HB HSL HSR hzA hvA0 hfA0
                    obtain ⟨La, Ra, y, q, rfl, HQ2, HY, HA, HSL, HSR, SL, SR, HB⟩ := hrel
                    cases gk with
                    | zero => exact absurd HQ2.out (Nat.not_lt_zero _)
                    | succ k2 =>
                    cases q with
                    | succ q =>
                      have h0 : 0 ≤ y := HY.out.2
                      have h1 : y < (l0.length : Int) := by have := HY.out; omega
                      have cyb : decide (y < (l0.length : Int)) = true := decide_eq_true h1
                      have ppy : (0 ≤ y) = True := eq_true (h0)
                      have qqy : (y < (l0.length : Int)) = True := eq_true (h1)
                      have HY0 := Aside0.mk h0
                      have HY1 := Aside0.mk h1
                      clear h0 h1
                      try go_wp2
                      (first | (rw [drewN_self wr]; generalize hq_ : World.drewN wr _ = w6) | (rw [drew_self wr]; generalize hq1_ : World.drew wr = w6; have hq_ : World.drewN wr 1 = w6 := hq1_; clear hq1_) | (rw [show wr = World.drewN wr 0 from rfl]; generalize hq_ : World.drewN wr 0 = w6))
                      have n_ := Aside0.mk (Kd.S_at hq_ SL.out); clear SL; have SL := n_; clear n_
                      have n_ := Aside0.mk (Kd.S_at hq_ SR.out); clear SR; have SR := n_; clear n_
                      have n_ := Aside0.mk (ar_below_at hq_ HB.out); clear HB; have HB := n_; clear n_
                      clear hq_
                      have n_ := Aside0.mk (Kd.S_drew SL.out); clear SL; have SL := n_; clear n_
                      have n_ := Aside0.mk (Kd.S_drew SR.out); clear SR; have SR := n_; clear n_
                      have n_ := Aside0.mk (below_drew1 HB.out); clear HB; have HB := n_; clear n_
                      obtain ⟨grA, crA, hzA, hfA_, hbA_, hkA_, hnA_, hcA_, _⟩ := mx_atm (m := l0.length) SL.out c HC0.out HC1.out (HSL.out.at _ HC0.out HC1.out) (by have := HM.out; omega)
                      obtain ⟨hvA0, hfA0⟩ := hcA_ y HY0.out HY1.out
                      clear hfA_ hbA_ hkA_ hnA_ hcA_
                      refine start_ (n := 17) (S := fun w' => w'.cell? ⟨gL, (c).toNat, none⟩ = some (.slice (some ⟨grA, 0, none⟩) l0.length crA) ∧ w'.cell? ⟨grA, (y).toNat, none⟩ = some (.int .i64 (iv.gt La c y)) ∧ w'.frozen? ⟨grA, (y).toNat, none⟩ = false) (ds := [16]) #[false, false, false, false, false, false, false, false, false, false, false, false, false, false, false, false, false] (by kernel_rfl) rfl rfl ⟨hzA, hvA0, hfA0⟩ (fun hHeld => ?_)
                      refine with_tabW impl_inverseIn.tab25 impl_inverseIn.bits25 (fun HT_ HW_ => ?_)
                      generalize w6.drew = w7 at SL SR HB hzA hvA0 hfA0 hHeld ⊢
                      refine pure_ (i := 0) (N := some 113) (v := ?_) (a' := ?_) #[true, false, false, false, false, false, false, false, false, false, false, false, false, false, false, false, false] rfl rfl (any_of HT_.out (by kernel_rfl)) (fun _ _ _ h => h) (Or.inl ⟨by rfl, ?_⟩) ?_ ?_
                      rotate_left
                      · intro w'
                        go_simp
                        with_reducible rfl
                      rotate_left
                      · simp only [Act.put, List.setIfInBounds_toArray, List.set_cons_zero, List.set_cons_succ, i64_w, i32_w]
                        rfl
                      refine pure_ (i := 1) (N := some 114) (v := ?_) (a' := ?_) #[true, true, false, false, false, false, false, false, false, false, false, false, false, false, false, false, false] rfl rfl (any_of HT_.out (by kernel_rfl)) (fun _ _ _ h => h) (Or.inl ⟨by rfl, ?_⟩) ?_ ?_
                      rotate_left
                      · intro w'
                        go_simp
                        with_reducible rfl
                      rotate_left
                      · simp only [Act.put, List.setIfInBounds_toArray, List.set_cons_zero, List.set_cons_succ, i64_w, i32_w]
                        rfl
                      refine pure_ (i := 2) (N := some 115) (v := ?_) (a' := ?_) #[true, true, true, false, false, false, false, false, false, false, false, false, false, false, false, false, false] rfl rfl (any_of HT_.out (by kernel_rfl)) (fun _ _ _ h => h) (Or.inl ⟨by rfl, ?_⟩) ?_ ?_
                      rotate_left
                      · intro w'
                        go_simp
                        with_reducible rfl
                      rotate_left
                      · simp only [Act.put, List.setIfInBounds_toArray, List.set_cons_zero, List.set_cons_succ, i64_w, i32_w]
                        rfl
                      refine pure_ (i := 4) (N := some 117) (v := ?_) (a' := ?_) #[true, true, true, false, true, false, false, false, false, false, false, false, false, false, false, false, false] rfl rfl (any_of HT_.out (by kernel_rfl)) (fun _ _ _ h => h) (Or.inl ⟨by rfl, ?_⟩) ?_ ?_
                      rotate_left
                      · intro w'
                        go_simp
                        with_reducible rfl
                      rotate_left
                      · simp only [Act.put, List.setIfInBounds_toArray, List.set_cons_zero, List.set_cons_succ, i64_w, i32_w]
                        rfl
                      refine pure_ (i := 5) (N := some 118) (v := ?_) (a' := ?_) #[true, true, true, false, true, true, false, false, false, false, false, false, false, false, false, false, false] rfl rfl (any_of HT_.out (by kernel_rfl)) (fun _ _ _ h => h) (Or.inl ⟨by rfl, ?_⟩) ?_ ?_
                      rotate_left
                      · intro w'
                        go_simp
                        with_reducible rfl
                      rotate_left
                      · simp only [Act.put, List.setIfInBounds_toArray, List.set_cons_zero, List.set_cons_succ, i64_w, i32_w]
                        rfl
                      refine pure_ (i := 6) (N := some 119) (v := ?_) (a' := ?_) #[true, true, true, false, true, true, true, false, false, false, false, false, false, false, false, false, false] rfl rfl (any_of HT_.out (by kernel_rfl)) (fun _ _ _ h => h) (Or.inl ⟨by rfl, ?_⟩) ?_ ?_
                      rotate_left
                      · intro w'
                        go_simp
                        with_reducible rfl
                      rotate_left
                      · simp only [Act.put, List.setIfInBounds_toArray, List.set_cons_zero, List.set_cons_succ, i64_w, i32_w]
                        rfl
                      refine pure_ (i := 7) (N := some 120) (v := ?_) (a' := ?_) #[true, true, true, false, true, true, true, true, false, false, false, false, false, false, false, false, false] rfl rfl (any_of HT_.out (by kernel_rfl)) (fun _ _ _ h => h) (Or.inl ⟨by rfl, ?_⟩) ?_ ?_
                      rotate_left
                      · intro w'
                        go_simp
                        with_reducible rfl
                      rotate_left
                      · simp only [Act.put, List.setIfInBounds_toArray, List.set_cons_zero, List.set_cons_succ, i64_w, i32_w]
                        rfl
                      refine pure_ (i := 9) (N := some 122) (v := ?_) (a' := ?_) #[true, true, true, false, true, true, true, true, false, true, false, false, false, false, false, false, false] rfl rfl (any_of HT_.out (by kernel_rfl)) (fun _ _ _ h => h) (Or.inl ⟨by rfl, ?_⟩) ?_ ?_
                      rotate_left
                      · intro w'
                        go_simp
                        with_reducible rfl
                      rotate_left
                      · simp only [Act.put, List.setIfInBounds_toArray, List.set_cons_zero, List.set_cons_succ, i64_w, i32_w]
                        rfl
                      refine pure_ (i := 12) (N := some 125) (v := ?_) (a' := ?_) #[true, true, true, false, true, true, true, true, false, true, false, false, true, false, false, false, false] rfl rfl (any_of HT_.out (by kernel_rfl)) (fun _ _ _ h => h) (Or.inl ⟨by rfl, ?_⟩) ?_ ?_
                      rotate_left
                      · intro w'
                        go_simp
                        with_reducible rfl
                      rotate_left
                      · simp only [Act.put, List.setIfInBounds_toArray, List.set_cons_zero, List.set_cons_succ, i64_w, i32_w]
                        rfl
                      refine take_ (i := 3) (N := some 116) (v := ?_) (a' := ?_) #[true, true, true, true, true, true, true, true, false, true, false, false, true, false, false, false, false] rfl rfl (take_ofW HT_.out HW_.out (by kernel_rfl)) (fun _ _ _ h => h) (Or.inl ⟨by rfl, ?_⟩) hHeld ?_ ?_
                      rotate_left
                      · rintro w' ⟨s0, s1, s2⟩
                        go_simp
                        with_reducible rfl
                      rotate_left
                      · simp only [Act.put, List.setIfInBounds_toArray, List.set_cons_zero, List.set_cons_succ, i64_w, i32_w]
                        rfl
                      refine take_ (i := 8) (N := some 121) (v := ?_) (a' := ?_) #[true, true, true, true, true, true, true, true, true, true, false, false, true, false, false, false, false] rfl rfl (take_ofW HT_.out HW_.out (by kernel_rfl)) (fun _ _ _ h => h) (Or.inl ⟨by rfl, ?_⟩) hHeld ?_ ?_
                      rotate_left
                      · rintro w' ⟨s0, s1, s2⟩
                        go_simp
                        with_reducible rfl
                      rotate_left
                      · simp only [Act.put, List.setIfInBounds_toArray, List.set_cons_zero, List.set_cons_succ, i64_w, i32_w]
                        rfl
                      refine pure_ (i := 10) (N := some 123) (v := ?_) (a' := ?_) #[true, true, true, true, true, true, true, true, true, true, true, false, true, false, false, false, false] rfl rfl (any_of HT_.out (by kernel_rfl)) (fun _ _ _ h => h) (Or.inl ⟨by rfl, ?_⟩) ?_ ?_
                      rotate_left
                      · intro w'
                        go_simp
                        with_reducible rfl
                      rotate_left
                      · simp only [Act.put, List.setIfInBounds_toArray, List.set_cons_zero, List.set_cons_succ, i64_w, i32_w]
                        rfl
                      refine take_ (i := 11) (N := some 124) (v := ?_) (a' := ?_) #[true, true, true, true, true, true, true, true, true, true, true, true, true, false, false, false, false] rfl rfl (take_ofW HT_.out HW_.out (by kernel_rfl)) (fun _ _ _ h => h) (Or.inl ⟨by rfl, ?_⟩) hHeld ?_ ?_
                      rotate_left
                      · rintro w' ⟨s0, s1, s2⟩
                        go_simp
                        with_reducible rfl
                      rotate_left
                      · simp only [Act.put, List.setIfInBounds_toArray, List.set_cons_zero, List.set_cons_succ, i64_w, i32_w]
                        rfl
                      refine pure_ (i := 13) (N := some 126) (v := ?_) (a' := ?_) #[true, true, true, true, true, true, true, true, true, true, true, true, true, true, false, false, false] rfl rfl (any_of HT_.out (by kernel_rfl)) (fun _ _ _ h => h) (Or.inl ⟨by rfl, ?_⟩) ?_ ?_
                      rotate_left
                      · intro w'
                        go_simp
                        with_reducible rfl
                      rotate_left
                      · simp only [Act.put, List.setIfInBounds_toArray, List.set_cons_zero, List.set_cons_succ, i64_w, i32_w]
                        rfl
                      refine pure_ (i := 14) (N := some 127) (v := ?_) (a' := ?_) #[true, true, true, true, true, true, true, true, true, true, true, true, true, true, true, false, false] rfl rfl (any_of HT_.out (by kernel_rfl)) (fun _ _ _ h => h) (Or.inl ⟨by rfl, ?_⟩) ?_ ?_
                      rotate_left
                      · intro w'
                        go_simp
                        with_reducible rfl
                      rotate_left
                      · simp only [Act.put, List.setIfInBounds_toArray, List.set_cons_zero, List.set_cons_succ, i64_w, i32_w]
                        rfl
                      refine pure_ (i := 15) (N := some 128) (v := ?_) (a' := ?_) #[true, true, true, true, true, true, true, true, true, true, true, true, true, true, true, true, false] rfl rfl (any_of HT_.out (by kernel_rfl)) (fun _ _ _ h => h) (Or.inl ⟨by rfl, ?_⟩) ?_ ?_
                      rotate_left
                      · intro w'
                        go_simp
                        with_reducible rfl
                      rotate_left
                      · simp only [Act.put, List.setIfInBounds_toArray, List.set_cons_zero, List.set_cons_succ, i64_w, i32_w]
                        rfl
                      refine last_ (i := 16) (N := none) #[true, true, true, true, true, true, true, true, true, true, true, true, true, true, true, true, true] rfl rfl (one_of HT_.out (by kernel_rfl)) (by decide) (fun K hK => ?_)
                      refine skip_ (w1 := ?_) (by rfl) rfl ?_ ?_
                      rotate_left
                      · first | (go_simp; done) | (go_simp; rfl)
                      refine hK.out _ _ ?_
                      clear hK K
                      refine done_ (done_of HT_.out (by kernel_rfl)) ?_
                      obtain ⟨hst, hok_, hbs_⟩ := mx_store SL.out c HC0.out HC1.out (HSL.out.at _ HC0.out HC1.out) (by have := HM.out; omega) hzA y (Int.tmod (wrap64 (iv.gt La c y * iv_)) 10007) HY0.out HY1.out
                      have n0_ : Aside0 (Mx 2 22 (World.setCell w7 ⟨grA, (y).toNat, none⟩ (.int .i64 (Int.tmod (wrap64 (iv.gt La c y * iv_)) 10007))) w.heap.size (fun k_ => ¬ (b1 ≤ k_ ∧ k_ < b2)) (.slice (some ⟨gL, 0, none⟩) l0.length cL) (iv.pt La c y (Int.tmod (wrap64 (iv.gt La c y * iv_)) 10007))) := ⟨hst⟩
                      have n1_ : Aside0 (Mx 2 22 (World.setCell w7 ⟨grA, (y).toNat, none⟩ (.int .i64 (Int.tmod (wrap64 (iv.gt La c y * iv_)) 10007))) w.heap.size (fun k_ => b1 ≤ k_ ∧ k_ < b2) (.slice (some ⟨gR, 0, none⟩) l0.length cR) Ra) := ⟨mx_far SR.out hok_ _ _⟩
                      have n2_ : Aside0 (Below w.heap.size w (World.setCell w7 ⟨grA, (y).toNat, none⟩ (.int .i64 (Int.tmod (wrap64 (iv.gt La c y * iv_)) 10007)))) := ⟨below_set HB.out hbs_⟩
                      clear hst hok_ hbs_ hHeld HT_ HW_ hzA hvA0 hfA0
                      clear SL SR HB
                      generalize (World.setCell w7 ⟨grA, (y).toNat, none⟩ (.int .i64 (Int.tmod (wrap64 (iv.gt La c y * iv_)) 10007))) = w8 at n0_ n1_ n2_ ⊢
                      have SL := n0_
                      have SR := n1_
                      have HB := n2_
                      clear n0_ n1_ n2_
                      try go_wp2
                      (first | (rw [drewN_self w8]; generalize hq_ : World.drewN w8 _ = w9) | (rw [drew_self w8]; generalize hq1_ : World.drew w8 = w9; have hq_ : World.drewN w8 1 = w9 := hq1_; clear hq1_) | (rw [show w8 = World.drewN w8 0 from rfl]; generalize hq_ : World.drewN w8 0 = w9))
                      have n_ := Aside0.mk (Kd.S_at hq_ SL.out); clear SL; have SL := n_; clear n_
                      have n_ := Aside0.mk (Kd.S_at hq_ SR.out); clear SR; have SR := n_; clear n_
                      have n_ := Aside0.mk (ar_below_at hq_ HB.out); clear HB; have HB := n_; clear n_
                      clear hq_
                      have n_ := Aside0.mk (Kd.S_drew SL.out); clear SL; have SL := n_; clear n_
                      have n_ := Aside0.mk (Kd.S_drew SR.out); clear SR; have SR := n_; clear n_
                      have n_ := Aside0.mk (below_drew1 HB.out); clear HB; have HB := n_; clear n_
                      obtain ⟨grA, crA, hzA, hfA_, hbA_, hkA_, hnA_, hcA_, _⟩ := mx_atm (m := l0.length) SR.out c HC0.out HC1.out (HSR.out.at _ HC0.out HC1.out) (by have := HM.out; omega)
                      obtain ⟨hvA0, hfA0⟩ := hcA_ y HY0.out HY1.out
                      clear hfA_ hbA_ hkA_ hnA_ hcA_
                      refine start_ (n := 17) (S := fun w' => w'.cell? ⟨gR, (c).toNat, none⟩ = some (.slice (some ⟨grA, 0, none⟩) l0.length crA) ∧ w'.cell? ⟨grA, (y).toNat, none⟩ = some (.int .i64 (iv.gt Ra c y)) ∧ w'.frozen? ⟨grA, (y).toNat, none⟩ = false) (ds := [16]) #[false, false, false, false, false, false, false, false, false, false, false, false, false, false, false, false, false] (by kernel_rfl) rfl rfl ⟨hzA, hvA0, hfA0⟩ (fun hHeld => ?_)
                      refine with_tabW impl_inverseIn.tab26 impl_inverseIn.bits26 (fun HT_ HW_ => ?_)
                      generalize w9.drew = w10 at SL SR HB hzA hvA0 hfA0 hHeld ⊢
                      refine pure_ (i := 0) (N := some 129) (v := ?_) (a' := ?_) #[true, false, false, false, false, false, false, false, false, false, false, false, false, false, false, false, false] rfl rfl (any_of HT_.out (by kernel_rfl)) (fun _ _ _ h => h) (Or.inl ⟨by rfl, ?_⟩) ?_ ?_
                      rotate_left
                      · intro w'
                        go_simp
                        with_reducible rfl
                      rotate_left
                      · simp only [Act.put, List.setIfInBounds_toArray, List.set_cons_zero, List.set_cons_succ, i64_w, i32_w]
                        rfl
                      refine pure_ (i := 1) (N := some 130) (v := ?_) (a' := ?_) #[true, true, false, false, false, false, false, false, false, false, false, false, false, false, false, false, false] rfl rfl (any_of HT_.out (by kernel_rfl)) (fun _ _ _ h => h) (Or.inl ⟨by rfl, ?_⟩) ?_ ?_
                      rotate_left
                      · intro w'
                        go_simp
                        with_reducible rfl
                      rotate_left
                      · simp only [Act.put, List.setIfInBounds_toArray, List.set_cons_zero, List.set_cons_succ, i64_w, i32_w]
                        rfl
                      refine pure_ (i := 2) (N := some 131) (v := ?_) (a' := ?_) #[true, true, true, false, false, false, false, false, false, false, false, false, false, false, false, false, false] rfl rfl (any_of HT_.out (by kernel_rfl)) (fun _ _ _ h => h) (Or.inl ⟨by rfl, ?_⟩) ?_ ?_
                      rotate_left
                      · intro w'
                        go_simp
                        with_reducible rfl
                      rotate_left
                      · simp only [Act.put, List.setIfInBounds_toArray, List.set_cons_zero, List.set_cons_succ, i64_w, i32_w]
                        rfl
                      refine pure_ (i := 4) (N := some 133) (v := ?_) (a' := ?_) #[true, true, true, false, true, false, false, false, false, false, false, false, false, false, false, false, false] rfl rfl (any_of HT_.out (by kernel_rfl)) (fun _ _ _ h => h) (Or.inl ⟨by rfl, ?_⟩) ?_ ?_
                      rotate_left
                      · intro w'
                        go_simp
                        with_reducible rfl
                      rotate_left
                      · simp only [Act.put, List.setIfInBounds_toArray, List.set_cons_zero, List.set_cons_succ, i64_w, i32_w]
                        rfl
                      refine pure_ (i := 5) (N := some 134) (v := ?_) (a' := ?_) #[true, true, true, false, true, true, false, false, false, false, false, false, false, false, false, false, false] rfl rfl (any_of HT_.out (by kernel_rfl)) (fun _ _ _ h => h) (Or.inl ⟨by rfl, ?_⟩) ?_ ?_
                      rotate_left
                      · intro w'
                        go_simp
                        with_reducible rfl
                      rotate_left
                      · simp only [Act.put, List.setIfInBounds_toArray, List.set_cons_zero, List.set_cons_succ, i64_w, i32_w]
                        rfl
                      refine pure_ (i := 6) (N := some 135) (v := ?_) (a' := ?_) #[true, true, true, false, true, true, true, false, false, false, false, false, false, false, false, false, false] rfl rfl (any_of HT_.out (by kernel_rfl)) (fun _ _ _ h => h) (Or.inl ⟨by rfl, ?_⟩) ?_ ?_
                      rotate_left
                      · intro w'
                        go_simp
                        with_reducible rfl
                      rotate_left
                      · simp only [Act.put, List.setIfInBounds_toArray, List.set_cons_zero, List.set_cons_succ, i64_w, i32_w]
                        rfl
                      refine pure_ (i := 7) (N := some 136) (v := ?_) (a' := ?_) #[true, true, true, false, true, true, true, true, false, false, false, false, false, false, false, false, false] rfl rfl (any_of HT_.out (by kernel_rfl)) (fun _ _ _ h => h) (Or.inl ⟨by rfl, ?_⟩) ?_ ?_
                      rotate_left
                      · intro w'
                        go_simp
                        with_reducible rfl
                      rotate_left
                      · simp only [Act.put, List.setIfInBounds_toArray, List.set_cons_zero, List.set_cons_succ, i64_w, i32_w]
                        rfl
                      refine pure_ (i := 9) (N := some 138) (v := ?_) (a' := ?_) #[true, true, true, false, true, true, true, true, false, true, false, false, false, false, false, false, false] rfl rfl (any_of HT_.out (by kernel_rfl)) (fun _ _ _ h => h) (Or.inl ⟨by rfl, ?_⟩) ?_ ?_
                      rotate_left
                      · intro w'
                        go_simp
                        with_reducible rfl
                      rotate_left
                      · simp only [Act.put, List.setIfInBounds_toArray, List.set_cons_zero, List.set_cons_succ, i64_w, i32_w]
                        rfl
                      refine pure_ (i := 12) (N := some 141) (v := ?_) (a' := ?_) #[true, true, true, false, true, true, true, true, false, true, false, false, true, false, false, false, false] rfl rfl (any_of HT_.out (by kernel_rfl)) (fun _ _ _ h => h) (Or.inl ⟨by rfl, ?_⟩) ?_ ?_
                      rotate_left
                      · intro w'
                        go_simp
                        with_reducible rfl
                      rotate_left
                      · simp only [Act.put, List.setIfInBounds_toArray, List.set_cons_zero, List.set_cons_succ, i64_w, i32_w]
                        rfl
                      refine take_ (i := 3) (N := some 132) (v := ?_) (a' := ?_) #[true, true, true, true, true, true, true, true, false, true, false, false, true, false, false, false, false] rfl rfl (take_ofW HT_.out HW_.out (by kernel_rfl)) (fun _ _ _ h => h) (Or.inl ⟨by rfl, ?_⟩) hHeld ?_ ?_
                      rotate_left
                      · rintro w' ⟨s0, s1, s2⟩
                        go_simp
                        with_reducible rfl
                      rotate_left
                      · simp only [Act.put, List.setIfInBounds_toArray, List.set_cons_zero, List.set_cons_succ, i64_w, i32_w]
                        rfl
                      refine take_ (i := 8) (N := some 137) (v := ?_) (a' := ?_) #[true, true, true, true, true, true, true, true, true, true, false, false, true, false, false, false, false] rfl rfl (take_ofW HT_.out HW_.out (by kernel_rfl)) (fun _ _ _ h => h) (Or.inl ⟨by rfl, ?_⟩) hHeld ?_ ?_
                      rotate_left
                      · rintro w' ⟨s0, s1, s2⟩
                        go_simp
                        with_reducible rfl
                      rotate_left
                      · simp only [Act.put, List.setIfInBounds_toArray, List.set_cons_zero, List.set_cons_succ, i64_w, i32_w]
                        rfl
                      refine pure_ (i := 10) (N := some 139) (v := ?_) (a' := ?_) #[true, true, true, true, true, true, true, true, true, true, true, false, true, false, false, false, false] rfl rfl (any_of HT_.out (by kernel_rfl)) (fun _ _ _ h => h) (Or.inl ⟨by rfl, ?_⟩) ?_ ?_
                      rotate_left
                      · intro w'
                        go_simp
                        with_reducible rfl
                      rotate_left
                      · simp only [Act.put, List.setIfInBounds_toArray, List.set_cons_zero, List.set_cons_succ, i64_w, i32_w]
                        rfl
                      refine take_ (i := 11) (N := some 140) (v := ?_) (a' := ?_) #[true, true, true, true, true, true, true, true, true, true, true, true, true, false, false, false, false] rfl rfl (take_ofW HT_.out HW_.out (by kernel_rfl)) (fun _ _ _ h => h) (Or.inl ⟨by rfl, ?_⟩) hHeld ?_ ?_
                      rotate_left
                      · rintro w' ⟨s0, s1, s2⟩
                        go_simp
                        with_reducible rfl
                      rotate_left
                      · simp only [Act.put, List.setIfInBounds_toArray, List.set_cons_zero, List.set_cons_succ, i64_w, i32_w]
                        rfl
                      refine pure_ (i := 13) (N := some 142) (v := ?_) (a' := ?_) #[true, true, true, true, true, true, true, true, true, true, true, true, true, true, false, false, false] rfl rfl (any_of HT_.out (by kernel_rfl)) (fun _ _ _ h => h) (Or.inl ⟨by rfl, ?_⟩) ?_ ?_
                      rotate_left
                      · intro w'
                        go_simp
                        with_reducible rfl
                      rotate_left
                      · simp only [Act.put, List.setIfInBounds_toArray, List.set_cons_zero, List.set_cons_succ, i64_w, i32_w]
                        rfl
                      refine pure_ (i := 14) (N := some 143) (v := ?_) (a' := ?_) #[true, true, true, true, true, true, true, true, true, true, true, true, true, true, true, false, false] rfl rfl (any_of HT_.out (by kernel_rfl)) (fun _ _ _ h => h) (Or.inl ⟨by rfl, ?_⟩) ?_ ?_
                      rotate_left
                      · intro w'
                        go_simp
                        with_reducible rfl
                      rotate_left
                      · simp only [Act.put, List.setIfInBounds_toArray, List.set_cons_zero, List.set_cons_succ, i64_w, i32_w]
                        rfl
                      refine pure_ (i := 15) (N := some 144) (v := ?_) (a' := ?_) #[true, true, true, true, true, true, true, true, true, true, true, true, true, true, true, true, false] rfl rfl (any_of HT_.out (by kernel_rfl)) (fun _ _ _ h => h) (Or.inl ⟨by rfl, ?_⟩) ?_ ?_
                      rotate_left
                      · intro w'
                        go_simp
                        with_reducible rfl
                      rotate_left
                      · simp only [Act.put, List.setIfInBounds_toArray, List.set_cons_zero, List.set_cons_succ, i64_w, i32_w]
                        rfl
                      refine last_ (i := 16) (N := none) #[true, true, true, true, true, true, true, true, true, true, true, true, true, true, true, true, true] rfl rfl (one_of HT_.out (by kernel_rfl)) (by decide) (fun K hK => ?_)
                      refine skip_ (w1 := ?_) (by rfl) rfl ?_ ?_
                      rotate_left
                      · first | (go_simp; done) | (go_simp; rfl)
                      refine hK.out _ _ ?_
                      clear hK K
                      refine done_ (done_of HT_.out (by kernel_rfl)) ?_
                      obtain ⟨hst, hok_, hbs_⟩ := mx_store SR.out c HC0.out HC1.out (HSR.out.at _ HC0.out HC1.out) (by have := HM.out; omega) hzA y (Int.tmod (wrap64 (iv.gt Ra c y * iv_)) 10007) HY0.out HY1.out
                      have n0_ : Aside0 (Mx 2 22 (World.setCell w10 ⟨grA, (y).toNat, none⟩ (.int .i64 (Int.tmod (wrap64 (iv.gt Ra c y * iv_)) 10007))) w.heap.size (fun k_ => ¬ (b1 ≤ k_ ∧ k_ < b2)) (.slice (some ⟨gL, 0, none⟩) l0.length cL) (iv.pt La c y (Int.tmod (wrap64 (iv.gt La c y * iv_)) 10007))) := ⟨mx_far SL.out (fun h_ => h_ hok_) _ _⟩
                      have n1_ : Aside0 (Mx 2 22 (World.setCell w10 ⟨grA, (y).toNat, none⟩ (.int .i64 (Int.tmod (wrap64 (iv.gt Ra c y * iv_)) 10007))) w.heap.size (fun k_ => b1 ≤ k_ ∧ k_ < b2) (.slice (some ⟨gR, 0, none⟩) l0.length cR) (iv.pt Ra c y (Int.tmod (wrap64 (iv.gt Ra c y * iv_)) 10007))) := ⟨hst⟩
                      have n2_ : Aside0 (Below w.heap.size w (World.setCell w10 ⟨grA, (y).toNat, none⟩ (.int .i64 (Int.tmod (wrap64 (iv.gt Ra c y * iv_)) 10007)))) := ⟨below_set HB.out hbs_⟩
                      clear hst hok_ hbs_ hHeld HT_ HW_ hzA hvA0 hfA0
                      clear SL SR HB
                      generalize (World.setCell w10 ⟨grA, (y).toNat, none⟩ (.int .i64 (Int.tmod (wrap64 (iv.gt Ra c y * iv_)) 10007))) = w11 at n0_ n1_ n2_ ⊢
                      have SL := n0_
                      have SR := n1_
                      have HB := n2_
                      clear n0_ n1_ n2_
                      try go_wp2
                      go_roundg k2
                      case measure => omega
                      case rel =>
                        have HW := Aside0.mk (show wrap64 (y + 1) = y + 1 by have := HY0.out; have := HY1.out; have := HM.out; unfold wrap64; omega)
                        exact ⟨(iv.pt La c y (Int.tmod (wrap64 (iv.gt La c y * iv_)) 10007)), (iv.pt Ra c y (Int.tmod (wrap64 (iv.gt Ra c y * iv_)) 10007)), wrap64 (y + 1), q, (by first | rfl | (simp; done) | (simp [*]; done)), ⟨by have := HQ2.out; omega⟩, ⟨by have := HY.out; rw [HW.out]; omega⟩, ⟨by rw [HW.out]; exact HA.out⟩, ⟨HSL.out.pt _ _ _ HC0.out HC1.out⟩, ⟨HSR.out.pt _ _ _ HC0.out HC1.out⟩, ⟨(by (with_reducible repeat (first | apply Kd.S_alloc | apply Kd.S_drewN | apply Kd.S_drew)); exact SL.out)⟩, ⟨(by (with_reducible repeat (first | apply Kd.S_alloc | apply Kd.S_drewN | apply Kd.S_drew)); exact SR.out)⟩, ⟨(by repeat (first | (with_reducible first | exact HB.out | apply below_alloc | apply pw_below_drewN | apply below_drew1) | exact HB.out))⟩⟩
                    | zero =>
                      have cyb : decide (y < (l0.length : Int)) = false := decide_eq_false (by have := HY.out; omega)
                      obtain ⟨e1_, e2_⟩ := HA.out
                      simp only [iv.sc] at e1_ e2_
                      subst e1_ e2_
                      clear HA
                      go_wp2
                      go_loopg [147] 30 (fun kq v147 wr => ∃ (Lb Rb : List (List Int)) (x : Int) (q : Nat), v147 = .int .i64 x ∧ Aside0 (q < kq) ∧ Aside0 ((q : Int) + x = (l0.length : Int) ∧ 0 ≤ x) ∧ Aside0 (iv.rws l0.length c q x Lb Rb = Z) ∧ Aside0 (iv.Sq l0.length Lb) ∧ Aside0 (iv.Sq l0.length Rb) ∧ Aside0 (Mx 2 22 wr w.heap.size (fun k_ => ¬ (b1 ≤ k_ ∧ k_ < b2)) (.slice (some ⟨gL, 0, none⟩) l0.length cL) Lb) ∧ Aside0 (Mx 2 22 wr w.heap.size (fun k_ => b1 ≤ k_ ∧ k_ < b2) (.slice (some ⟨gR, 0, none⟩) l0.length cR) Rb) ∧ Aside0 (Below w.heap.size w wr))
                      case atStart => exact ⟨La, Ra, 0, l0.length, (by first | rfl | (simp; done) | (simp [*]; done)), ⟨by have := HM.out; omega⟩, ⟨by omega⟩, HZ, HSL, HSR, ⟨(by (with_reducible repeat (first | apply Kd.S_alloc | apply Kd.S_drewN | apply Kd.S_drew)); exact SL.out)⟩, ⟨(by (with_reducible repeat (first | apply Kd.S_alloc | apply Kd.S_drewN | apply Kd.S_drew)); exact SR.out)⟩, ⟨(by repeat (first | (with_reducible first | exact HB.out | apply below_alloc | apply pw_below_drewN | apply below_drew1) | exact HB.out))⟩⟩
                      case round =>
                        clear SL SR HB HSL HSR HQ2 HY cyb
                        obtain ⟨Lb, Rb, x, q, rfl, HQ3, HX, HA, HSL, HSR, SL, SR, HB⟩ := hrel
                        cases gk with
                        | zero => exact absurd HQ3.out (Nat.not_lt_zero _)
                        | succ k3 =>
                        cases q with
                        | zero =>
                          have cxb : decide (x < (l0.length : Int)) = false := decide_eq_false (by have := HX.out; omega)
                          have e_ := HA.out
                          simp only [iv.rws] at e_
                          subst e_
                          clear HA
                          go_wp2
                          go_roundg k1
                          case measure => omega
                          case rel =>
                            have HW := Aside0.mk (show wrap64 (c + 1) = c + 1 by have := HC0.out; have := HC1.out; have := HM.out; unfold wrap64; omega)
                            exact ⟨Lb, Rb, _, wrap64 (c + 1), n, rfl, (by first | rfl | (simp; done) | (simp [*]; done)), ⟨by have := HQ.out; omega⟩, ⟨by have := HC.out; rw [HW.out]; omega⟩, ⟨by rw [HW.out]; exact H'.out⟩, HSL, HSR, ⟨(by (with_reducible repeat (first | apply Kd.S_alloc | apply Kd.S_drewN | apply Kd.S_drew)); exact SL.out)⟩, ⟨(by (with_reducible repeat (first | apply Kd.S_alloc | apply Kd.S_drewN | apply Kd.S_drew)); exact SR.out)⟩, ⟨(by repeat (first | (with_reducible first | exact HB.out | apply below_alloc | apply pw_below_drewN | apply below_drew1) | exact HB.out))⟩⟩
                        | succ q =>
                          have hx0 : 0 ≤ x := HX.out.2
                          have hx1 : x < (l0.length : Int) := by have := HX.out; omega
                          have cxb : decide (x < (l0.length : Int)) = true := decide_eq_true hx1
                          have ppx : (0 ≤ x) = True := eq_true (hx0)
                          have qqx : (x < (l0.length : Int)) = True := eq_true (hx1)
                          obtain ⟨grA, crA, hzA, hfA_, hbA_, hkA_, hnA_, hcA_, _⟩ := mx_atm (m := l0.length) SL.out x hx0 hx1 (HSL.out.at _ hx0 hx1) (by have := HM.out; omega)
                          obtain ⟨hvA0, hfA0⟩ := hcA_ c HC0.out HC1.out
                          clear hfA_ hbA_ hkA_ hnA_ hcA_
                          have HX0 := Aside0.mk hx0
                          have HX1 := Aside0.mk hx1
                          clear hx0 hx1
                          have HA := HA.out
                          unfold iv.rws at HA
                          have HW := Aside0.mk (show wrap64 (x + 1) = x + 1 by have := HX0.out; have := HX1.out; have := HM.out; unfold wrap64; omega)
                          by_cases e1 : x = c
                          · have HA := Aside0.mk ((if_pos e1).symm.trans HA)
                            have c6b0 : (x == c) = true := beq_iff_eq.mpr e1
                            have c6b1 : (x != c) = false := bne_eq_false_iff_eq.mpr e1
                            clear e1
                            go_wp2
                            go_roundg k3
                            case measure => omega
                            case rel => exact ⟨Lb, Rb, wrap64 (x + 1), q, (by first | rfl | (simp; done) | (simp [*]; done)), ⟨by have := HQ3.out; omega⟩, ⟨by have := HX.out; rw [HW.out]; omega⟩, ⟨by rw [HW.out]; exact HA.out⟩, HSL, HSR, ⟨(by (with_reducible repeat (first | apply Kd.S_alloc | apply Kd.S_drewN | apply Kd.S_drew)); exact SL.out)⟩, ⟨(by (with_reducible repeat (first | apply Kd.S_alloc | apply Kd.S_drewN | apply Kd.S_drew)); exact SR.out)⟩, ⟨(by repeat (first | (with_reducible first | exact HB.out | apply below_alloc | apply pw_below_drewN | apply below_drew1) | exact HB.out))⟩⟩
                          · have HA := (if_neg e1).symm.trans HA
                            have c6b0 : (x == c) = false := beq_eq_false_iff_ne.mpr e1
                            have c6b1 : (x != c) = true := bne_iff_ne.mpr e1
                            clear e1
                            by_cases e2 : iv.gt Lb x c = 0
                            · have HA := Aside0.mk ((if_pos e2).symm.trans HA)
                              have c7b0 : (iv.gt Lb x c == 0) = true := beq_iff_eq.mpr e2
                              have c7b1 : (iv.gt Lb x c != 0) = false := bne_eq_false_iff_eq.mpr e2
                              clear e2
                              go_wp2
                              go_roundg k3
                              case measure => omega
                              case rel => exact ⟨Lb, Rb, wrap64 (x + 1), q, (by first | rfl | (simp; done) | (simp [*]; done)), ⟨by have := HQ3.out; omega⟩, ⟨by have := HX.out; rw [HW.out]; omega⟩, ⟨by rw [HW.out]; exact HA.out⟩, HSL, HSR, ⟨(by (with_reducible repeat (first | apply Kd.S_alloc | apply Kd.S_drewN | apply Kd.S_drew)); exact SL.out)⟩, ⟨(by (with_reducible repeat (first | apply Kd.S_alloc | apply Kd.S_drewN | apply Kd.S_drew)); exact SR.out)⟩, ⟨(by repeat (first | (with_reducible first | exact HB.out | apply below_alloc | apply pw_below_drewN | apply below_drew1) | exact HB.out))⟩⟩
                            · have HA := (if_neg e2).symm.trans HA
                              have c7b0 : (iv.gt Lb x c == 0) = false := beq_eq_false_iff_ne.mpr e2
                              have c7b1 : (iv.gt Lb x c != 0) = true := bne_iff_ne.mpr e2
                              clear e2
                              obtain ⟨Le, hLe⟩ : ∃ z, iv.el (iv.gt Lb x c) x c l0.length 0 Lb = z := ⟨_, rfl⟩
                              obtain ⟨Re, hRe⟩ : ∃ z, iv.el (iv.gt Lb x c) x c l0.length 0 Rb = z := ⟨_, rfl⟩
                              rw [hLe, hRe] at HA
                              have HLe := Aside0.mk hLe
                              have HRe := Aside0.mk hRe
                              have HA := Aside0.mk HA
                              clear hLe hRe
                              go_wp2
                              go_loopg [165] 30 (fun kq v165 wr => ∃ (Lc Rc : List (List Int)) (y : Int) (s : Nat), v165 = .int .i64 y ∧ Aside0 (s < kq) ∧ Aside0 ((s : Int) + y = (l0.length : Int) ∧ 0 ≤ y) ∧ Aside0 (iv.el (iv.gt Lb x c) x c s y Lc = Le ∧ iv.el (iv.gt Lb x c) x c s y Rc = Re) ∧ Aside0 (iv.Sq l0.length Lc) ∧ Aside0 (iv.Sq l0.length Rc) ∧ Aside0 (Mx 2 22 wr w.heap.size (fun k_ => ¬ (b1 ≤ k_ ∧ k_ < b2)) (.slice (some ⟨gL, 0, none⟩) l0.length cL) Lc) ∧ Aside0 (Mx 2 22 wr w.heap.size (fun k_ => b1 ≤ k_ ∧ k_ < b2) (.slice (some ⟨gR, 0, none⟩) l0.length cR) Rc) ∧ Aside0 (Below w.heap.size w wr))
                              case atStart => exact ⟨Lb, Rb, 0, l0.length, (by first | rfl | (simp; done) | (simp [*]; done)), ⟨by have := HM.out; omega⟩, ⟨by omega⟩, ⟨HLe.out, HRe.out⟩, HSL, HSR, ⟨(by (with_reducible repeat (first | apply Kd.S_alloc | apply Kd.S_drewN | apply Kd.S_drew)); exact SL.out)⟩, ⟨(by (with_reducible repeat (first | apply Kd.S_alloc | apply Kd.S_drewN | apply Kd.S_drew)); exact SR.out)⟩, ⟨(by repeat (first | (with_reducible first | exact HB.out | apply below_alloc | apply pw_below_drewN | apply below_drew1) | exact HB.out))⟩⟩
                              case round =>
                                clear SL SR HB HSL HSR hzA hvA0 hfA0
                                obtain ⟨Lc, Rc, y, s, rfl, HQ4, HY, HE, HSL, HSR, SL, SR, HB⟩ := hrel
                                cases gk with
                                | zero => exact absurd HQ4.out (Nat.not_lt_zero _)
                                | succ k4 =>
                                cases s with
                                | zero =>
                                  have cyb : decide (y < (l0.length : Int)) = false := decide_eq_false (by have := HY.out; omega)
                                  obtain ⟨e1_, e2_⟩ := HE.out
                                  simp only [iv.el] at e1_ e2_
                                  subst e1_ e2_
                                  clear HE
                                  go_wp2
                                  go_roundg k3
                                  case measure => omega
                                  case rel => exact ⟨Lc, Rc, wrap64 (x + 1), q, (by first | rfl | (simp; done) | (simp [*]; done)), ⟨by have := HQ3.out; omega⟩, ⟨by have := HX.out; rw [HW.out]; omega⟩, ⟨by rw [HW.out]; exact HA.out⟩, HSL, HSR, ⟨(by (with_reducible repeat (first | apply Kd.S_alloc | apply Kd.S_drewN | apply Kd.S_drew)); exact SL.out)⟩, ⟨(by (with_reducible repeat (first | apply Kd.S_alloc | apply Kd.S_drewN | apply Kd.S_drew)); exact SR.out)⟩, ⟨(by repeat (first | (with_reducible first | exact HB.out | apply below_alloc | apply pw_below_drewN | apply below_drew1) | exact HB.out))⟩⟩
                                | succ s =>
                                  have h0 : 0 ≤ y := HY.out.2
                                  have h1 : y < (l0.length : Int) := by have := HY.out; omega
                                  have cyb : decide (y < (l0.length : Int)) = true := decide_eq_true h1
                                  have ppy : (0 ≤ y) = True := eq_true (h0)
                                  have qqy : (y < (l0.length : Int)) = True := eq_true (h1)
                                  have HY0 := Aside0.mk h0
                                  have HY1 := Aside0.mk h1
                                  clear h0 h1
                                  try go_wp2
                                  (first | (rw [drewN_self wr]; generalize hq_ : World.drewN wr _ = w6) | (rw [drew_self wr]; generalize hq1_ : World.drew wr = w6; have hq_ : World.drewN wr 1 = w6 := hq1_; clear hq1_) | (rw [show wr = World.drewN wr 0 from rfl]; generalize hq_ : World.drewN wr 0 = w6))
                                  have n_ := Aside0.mk (Kd.S_at hq_ SL.out); clear SL; have SL := n_; clear n_
                                  have n_ := Aside0.mk (Kd.S_at hq_ SR.out); clear SR; have SR := n_; clear n_
                                  have n_ := Aside0.mk (ar_below_at hq_ HB.out); clear HB; have HB := n_; clear n_
                                  clear hq_
                                  have n_ := Aside0.mk (Kd.S_drew SL.out); clear SL; have SL := n_; clear n_
                                  have n_ := Aside0.mk (Kd.S_drew SR.out); clear SR; have SR := n_; clear n_
                                  have n_ := Aside0.mk (below_drew1 HB.out); clear HB; have HB := n_; clear n_
                                  obtain ⟨grA, crA, hzA, hfA_, hbA_, hkA_, hnA_, hcA_, _⟩ := mx_atm (m := l0.length) SL.out x HX0.out HX1.out (HSL.out.at _ HX0.out HX1.out) (by have := HM.out; omega)
                                  obtain ⟨hvA0, hfA0⟩ := hcA_ y HY0.out HY1.out
                                  clear hfA_ hbA_ hkA_ hnA_ hcA_
                                  obtain ⟨grB, crB, hzB, hfB_, hbB_, hkB_, hnB_, hcB_, _⟩ := mx_atm (m := l0.length) SL.out c HC0.out HC1.out (HSL.out.at _ HC0.out HC1.out) (by have := HM.out; omega)
                                  obtain ⟨hvB0, hfB0⟩ := hcB_ y HY0.out HY1.out
                                  clear hfB_ hbB_ hkB_ hnB_ hcB_
                                  clear hfB0
                                  refine start_ (n := 25) (S := fun w' => w'.cell? ⟨gL, (x).toNat, none⟩ = some (.slice (some ⟨grA, 0, none⟩) l0.length crA) ∧ w'.cell? ⟨grA, (y).toNat, none⟩ = some (.int .i64 (iv.gt Lc x y)) ∧ w'.frozen? ⟨grA, (y).toNat, none⟩ = false ∧ w'.cell? ⟨gL, (c).toNat, none⟩ = some (.slice (some ⟨grB, 0, none⟩) l0.length crB) ∧ w'.cell? ⟨grB, (y).toNat, none⟩ = some (.int .i64 (iv.gt Lc c y))) (ds := [24]) #[false, false, false, false, false, false, false, false, false, false, false, false, false, false, false, false, false, false, false, false, false, false, false, false, false] (by kernel_rfl) rfl rfl ⟨hzA, hvA0, hfA0, hzB, hvB0⟩ (fun hHeld => ?_)
                                  refine with_tabW impl_inverseIn.tab36 impl_inverseIn.bits36 (fun HT_ HW_ => ?_)
                                  generalize w6.drew = w7 at SL SR HB hzA hvA0 hfA0 hzB hvB0 hHeld ⊢
                                  refine pure_ (i := 0) (N := some 168) (v := ?_) (a' := ?_) #[true, false, false, false, false, false, false, false, false, false, false, false, false, false, false, false, false, false, false, false, false, false, false, false, false] rfl rfl (any_of HT_.out (by kernel_rfl)) (fun _ _ _ h => h) (Or.inl ⟨by rfl, ?_⟩) ?_ ?_
                                  rotate_left
                                  · intro w'
                                    go_simp
                                    with_reducible rfl
                                  rotate_left
                                  · simp only [Act.put, List.setIfInBounds_toArray, List.set_cons_zero, List.set_cons_succ, i64_w, i32_w]
                                    rfl
                                  refine pure_ (i := 1) (N := some 169) (v := ?_) (a' := ?_) #[true, true, false, false, false, false, false, false, false, false, false, false, false, false, false, false, false, false, false, false, false, false, false, false, false] rfl rfl (any_of HT_.out (by kernel_rfl)) (fun _ _ _ h => h) (Or.inl ⟨by rfl, ?_⟩) ?_ ?_
                                  rotate_left
                                  · intro w'
                                    go_simp
                                    with_reducible rfl
                                  rotate_left
                                  · simp only [Act.put, List.setIfInBounds_toArray, List.set_cons_zero, List.set_cons_succ, i64_w, i32_w]
                                    rfl
                                  refine pure_ (i := 2) (N := some 170) (v := ?_) (a' := ?_) #[true, true, true, false, false, false, false, false, false, false, false, false, false, false, false, false, false, false, false, false, false, false, false, false, false] rfl rfl (any_of HT_.out (by kernel_rfl)) (fun _ _ _ h => h) (Or.inl ⟨by rfl, ?_⟩) ?_ ?_
                                  rotate_left
                                  · intro w'
                                    go_simp
                                    with_reducible rfl
                                  rotate_left
                                  · simp only [Act.put, List.setIfInBounds_toArray, List.set_cons_zero, List.set_cons_succ, i64_w, i32_w]
                                    rfl
                                  refine pure_ (i := 4) (N := some 172) (v := ?_) (a' := ?_) #[true, true, true, false, true, false, false, false, false, false, false, false, false, false, false, false, false, false, false, false, false, false, false, false, false] rfl rfl (any_of HT_.out (by kernel_rfl)) (fun _ _ _ h => h) (Or.inl ⟨by rfl, ?_⟩) ?_ ?_
                                  rotate_left
                                  · intro w'
                                    go_simp
                                    with_reducible rfl
                                  rotate_left
                                  · simp only [Act.put, List.setIfInBounds_toArray, List.set_cons_zero, List.set_cons_succ, i64_w, i32_w]
                                    rfl
                                  refine pure_ (i := 5) (N := some 173) (v := ?_) (a' := ?_) #[true, true, true, false, true, true, false, false, false, false, false, false, false, false, false, false, false, false, false, false, false, false, false, false, false] rfl rfl (any_of HT_.out (by kernel_rfl)) (fun _ _ _ h => h) (Or.inl ⟨by rfl, ?_⟩) ?_ ?_
                                  rotate_left
                                  · intro w'
                                    go_simp
                                    with_reducible rfl
                                  rotate_left
                                  · simp only [Act.put, List.setIfInBounds_toArray, List.set_cons_zero, List.set_cons_succ, i64_w, i32_w]
                                    rfl
                                  refine pure_ (i := 6) (N := some 174) (v := ?_) (a' := ?_) #[true, true, true, false, true, true, true, false, false, false, false, false, false, false, false, false, false, false, false, false, false, false, false, false, false] rfl rfl (any_of HT_.out (by kernel_rfl)) (fun _ _ _ h => h) (Or.inl ⟨by rfl, ?_⟩) ?_ ?_
                                  rotate_left
                                  · intro w'
                                    go_simp
                                    with_reducible rfl
                                  rotate_left
                                  · simp only [Act.put, List.setIfInBounds_toArray, List.set_cons_zero, List.set_cons_succ, i64_w, i32_w]
                                    rfl
                                  refine pure_ (i := 7) (N := some 175) (v := ?_) (a' := ?_) #[true, true, true, false, true, true, true, true, false, false, false, false, false, false, false, false, false, false, false, false, false, false, false, false, false] rfl rfl (any_of HT_.out (by kernel_rfl)) (fun _ _ _ h => h) (Or.inl ⟨by rfl, ?_⟩) ?_ ?_
                                  rotate_left
                                  · intro w'
                                    go_simp
                                    with_reducible rfl
                                  rotate_left
                                  · simp only [Act.put, List.setIfInBounds_toArray, List.set_cons_zero, List.set_cons_succ, i64_w, i32_w]
                                    rfl
                                  refine pure_ (i := 9) (N := some 177) (v := ?_) (a' := ?_) #[true, true, true, false, true, true, true, true, false, true, false, false, false, false, false, false, false, false, false, false, false, false, false, false, false] rfl rfl (any_of HT_.out (by kernel_rfl)) (fun _ _ _ h => h) (Or.inl ⟨by rfl, ?_⟩) ?_ ?_
                                  rotate_left
                                  · intro w'
                                    go_simp
                                    with_reducible rfl
                                  rotate_left
                                  · simp only [Act.put, List.setIfInBounds_toArray, List.set_cons_zero, List.set_cons_succ, i64_w, i32_w]
                                    rfl
                                  refine pure_ (i := 12) (N := some 180) (v := ?_) (a' := ?_) #[true, true, true, false, true, true, true, true, false, true, false, false, true, false, false, false, false, false, false, false, false, false, false, false, false] rfl rfl (any_of HT_.out (by kernel_rfl)) (fun _ _ _ h => h) (Or.inl ⟨by rfl, ?_⟩) ?_ ?_
                                  rotate_left
                                  · intro w'
                                    go_simp
                                    with_reducible rfl
                                  rotate_left
                                  · simp only [Act.put, List.setIfInBounds_toArray, List.set_cons_zero, List.set_cons_succ, i64_w, i32_w]
                                    rfl
                                  refine pure_ (i := 13) (N := some 181) (v := ?_) (a' := ?_) #[true, true, true, false, true, true, true, true, false, true, false, false, true, true, false, false, false, false, false, false, false, false, false, false, false] rfl rfl (any_of HT_.out (by kernel_rfl)) (fun _ _ _ h => h) (Or.inl ⟨by rfl, ?_⟩) ?_ ?_
                                  rotate_left
                                  · intro w'
                                    go_simp
                                    with_reducible rfl
                                  rotate_left
                                  · simp only [Act.put, List.setIfInBounds_toArray, List.set_cons_zero, List.set_cons_succ, i64_w, i32_w]
                                    rfl
                                  refine pure_ (i := 14) (N := some 182) (v := ?_) (a' := ?_) #[true, true, true, false, true, true, true, true, false, true, false, false, true, true, true, false, false, false, false, false, false, false, false, false, false] rfl rfl (any_of HT_.out (by kernel_rfl)) (fun _ _ _ h => h) (Or.inl ⟨by rfl, ?_⟩) ?_ ?_
                                  rotate_left
                                  · intro w'
                                    go_simp
                                    with_reducible rfl
                                  rotate_left
                                  · simp only [Act.put, List.setIfInBounds_toArray, List.set_cons_zero, List.set_cons_succ, i64_w, i32_w]
                                    rfl
                                  refine pure_ (i := 15) (N := some 183) (v := ?_) (a' := ?_) #[true, true, true, false, true, true, true, true, false, true, false, false, true, true, true, true, false, false, false, false, false, false, false, false, false] rfl rfl (any_of HT_.out (by kernel_rfl)) (fun _ _ _ h => h) (Or.inl ⟨by rfl, ?_⟩) ?_ ?_
                                  rotate_left
                                  · intro w'
                                    go_simp
                                    with_reducible rfl
                                  rotate_left
                                  · simp only [Act.put, List.setIfInBounds_toArray, List.set_cons_zero, List.set_cons_succ, i64_w, i32_w]
                                    rfl
                                  refine pure_ (i := 17) (N := some 185) (v := ?_) (a' := ?_) #[true, true, true, false, true, true, true, true, false, true, false, false, true, true, true, true, false, true, false, false, false, false, false, false, false] rfl rfl (any_of HT_.out (by kernel_rfl)) (fun _ _ _ h => h) (Or.inl ⟨by rfl, ?_⟩) ?_ ?_
                                  rotate_left
                                  · intro w'
                                    go_simp
                                    with_reducible rfl
                                  rotate_left
                                  · simp only [Act.put, List.setIfInBounds_toArray, List.set_cons_zero, List.set_cons_succ, i64_w, i32_w]
                                    rfl
                                  refine take_ (i := 3) (N := some 171) (v := ?_) (a' := ?_) #[true, true, true, true, true, true, true, true, false, true, false, false, true, true, true, true, false, true, false, false, false, false, false, false, false] rfl rfl (take_ofW HT_.out HW_.out (by kernel_rfl)) (fun _ _ _ h => h) (Or.inl ⟨by rfl, ?_⟩) hHeld ?_ ?_
                                  rotate_left
                                  · rintro w' ⟨s0, s1, s2, s3, s4⟩
                                    go_simp
                                    with_reducible rfl
                                  rotate_left
                                  · simp only [Act.put, List.setIfInBounds_toArray, List.set_cons_zero, List.set_cons_succ, i64_w, i32_w]
                                    rfl
                                  refine take_ (i := 8) (N := some 176) (v := ?_) (a' := ?_) #[true, true, true, true, true, true, true, true, true, true, false, false, true, true, true, true, false, true, false, false, false, false, false, false, false] rfl rfl (take_ofW HT_.out HW_.out (by kernel_rfl)) (fun _ _ _ h => h) (Or.inl ⟨by rfl, ?_⟩) hHeld ?_ ?_
                                  rotate_left
                                  · rintro w' ⟨s0, s1, s2, s3, s4⟩
                                    go_simp
                                    with_reducible rfl
                                  rotate_left
                                  · simp only [Act.put, List.setIfInBounds_toArray, List.set_cons_zero, List.set_cons_succ, i64_w, i32_w]
                                    rfl
                                  refine pure_ (i := 10) (N := some 178) (v := ?_) (a' := ?_) #[true, true, true, true, true, true, true, true, true, true, true, false, true, true, true, true, false, true, false, false, false, false, false, false, false] rfl rfl (any_of HT_.out (by kernel_rfl)) (fun _ _ _ h => h) (Or.inl ⟨by rfl, ?_⟩) ?_ ?_
                                  rotate_left
                                  · intro w'
                                    go_simp
                                    with_reducible rfl
                                  rotate_left
                                  · simp only [Act.put, List.setIfInBounds_toArray, List.set_cons_zero, List.set_cons_succ, i64_w, i32_w]
                                    rfl
                                  refine take_ (i := 11) (N := some 179) (v := ?_) (a' := ?_) #[true, true, true, true, true, true, true, true, true, true, true, true, true, true, true, true, false, true, false, false, false, false, false, false, false] rfl rfl (take_ofW HT_.out HW_.out (by kernel_rfl)) (fun _ _ _ h => h) (Or.inl ⟨by rfl, ?_⟩) hHeld ?_ ?_
                                  rotate_left
                                  · rintro w' ⟨s0, s1, s2, s3, s4⟩
                                    go_simp
                                    with_reducible rfl
                                  rotate_left
                                  · simp only [Act.put, List.setIfInBounds_toArray, List.set_cons_zero, List.set_cons_succ, i64_w, i32_w]
                                    rfl
                                  refine take_ (i := 16) (N := some 184) (v := ?_) (a' := ?_) #[true, true, true, true, true, true, true, true, true, true, true, true, true, true, true, true, true, true, false, false, false, false, false, false, false] rfl rfl (take_ofW HT_.out HW_.out (by kernel_rfl)) (fun _ _ _ h => h) (Or.inl ⟨by rfl, ?_⟩) hHeld ?_ ?_
                                  rotate_left
                                  · rintro w' ⟨s0, s1, s2, s3, s4⟩
                                    go_simp
                                    with_reducible rfl
                                  rotate_left
                                  · simp only [Act.put, List.setIfInBounds_toArray, List.set_cons_zero, List.set_cons_succ, i64_w, i32_w]
                                    rfl
                                  refine pure_ (i := 18) (N := some 186) (v := ?_) (a' := ?_) #[true, true, true, true, true, true, true, true, true, true, true, true, true, true, true, true, true, true, true, false, false, false, false, false, false] rfl rfl (any_of HT_.out (by kernel_rfl)) (fun _ _ _ h => h) (Or.inl ⟨by rfl, ?_⟩) ?_ ?_
                                  rotate_left
                                  · intro w'
                                    go_simp
                                    with_reducible rfl
                                  rotate_left
                                  · simp only [Act.put, List.setIfInBounds_toArray, List.set_cons_zero, List.set_cons_succ, i64_w, i32_w]
                                    rfl
                                  refine take_ (i := 19) (N := some 187) (v := ?_) (a' := ?_) #[true, true, true, true, true, true, true, true, true, true, true, true, true, true, true, true, true, true, true, true, false, false, false, false, false] rfl rfl (take_ofW HT_.out HW_.out (by kernel_rfl)) (fun _ _ _ h => h) (Or.inl ⟨by rfl, ?_⟩) hHeld ?_ ?_
                                  rotate_left
                                  · rintro w' ⟨s0, s1, s2, s3, s4⟩
                                    go_simp
                                    with_reducible rfl
                                  rotate_left
                                  · simp only [Act.put, List.setIfInBounds_toArray, List.set_cons_zero, List.set_cons_succ, i64_w, i32_w]
                                    rfl
                                  refine pure_ (i := 20) (N := some 188) (v := ?_) (a' := ?_) #[true, true, true, true, true, true, true, true, true, true, true, true, true, true, true, true, true, true, true, true, true, false, false, false, false] rfl rfl (any_of HT_.out (by kernel_rfl)) (fun _ _ _ h => h) (Or.inl ⟨by rfl, ?_⟩) ?_ ?_
                                  rotate_left
                                  · intro w'
                                    go_simp
                                    with_reducible rfl
                                  rotate_left
                                  · simp only [Act.put, List.setIfInBounds_toArray, List.set_cons_zero, List.set_cons_succ, i64_w, i32_w]
                                    rfl
                                  refine pure_ (i := 21) (N := some 189) (v := ?_) (a' := ?_) #[true, true, true, true, true, true, true, true, true, true, true, true, true, true, true, true, true, true, true, true, true, true, false, false, false] rfl rfl (any_of HT_.out (by kernel_rfl)) (fun _ _ _ h => h) (Or.inl ⟨by rfl, ?_⟩) ?_ ?_
                                  rotate_left
                                  · intro w'
                                    go_simp
                                    with_reducible rfl
                                  rotate_left
                                  · simp only [Act.put, List.setIfInBounds_toArray, List.set_cons_zero, List.set_cons_succ, i64_w, i32_w]
                                    rfl
                                  refine one_ (i := 22) (N := some 190) #[true, true, true, true, true, true, true, true, true, true, true, true, true, true, true, true, true, true, true, true, true, true, true, false, false] rfl rfl (one_of HT_.out (by kernel_rfl)) (by decide) (fun K hK => ?_)
                                  refine goes_ Try.func28 (by kernel_rfl) rfl #[.int .i64 (wrap64 (iv.gt Lc x y - wrap64 (iv.gt Lb x c * iv.gt Lc c y)))] (by rfl) rfl rfl (by (try simp only [List.map_toArray, List.map_cons, List.map_nil]); first | done | rfl) ?_
                                  refine (impl_inField.calls (wrap64 (iv.gt Lc x y - wrap64 (iv.gt Lb x c * iv.gt Lc c y))) (iv.inF (wrap64 (iv.gt Lc x y - wrap64 (iv.gt Lb x c * iv.gt Lc c y)))) _ rfl).mono ?_
                                  rintro e wf ⟨rfl, ⟨nd, rfl⟩⟩
                                  refine ⟨_, rfl, ?_⟩
                                  have m0_ := Aside0.mk (Kd.S_drewN SL.out nd)
                                  have m1_ := Aside0.mk (Kd.S_drewN SR.out nd)
                                  have m2_ := Aside0.mk (pw_below_drewN HB.out nd)
                                  have k0_ : (World.drewN w7 nd).cell? ⟨gL, (x).toNat, none⟩ = some (.slice (some ⟨grA, 0, none⟩) l0.length crA) := hzA
                                  have k1_ : (World.drewN w7 nd).cell? ⟨grA, (y).toNat, none⟩ = some (.int .i64 (iv.gt Lc x y)) := hvA0
                                  have k2_ : (World.drewN w7 nd).frozen? ⟨grA, (y).toNat, none⟩ = false := hfA0
                                  have k3_ : (World.drewN w7 nd).cell? ⟨gL, (c).toNat, none⟩ = some (.slice (some ⟨grB, 0, none⟩) l0.length crB) := hzB
                                  have k4_ : (World.drewN w7 nd).cell? ⟨grB, (y).toNat, none⟩ = some (.int .i64 (iv.gt Lc c y)) := hvB0
                                  clear SL SR HB hzA hvA0 hfA0 hzB hvB0 hHeld
                                  generalize World.drewN w7 nd = w7 at m0_ m1_ m2_ k0_ k1_ k2_ k3_ k4_ ⊢
                                  have SL := m0_
                                  have SR := m1_
                                  have HB := m2_
                                  clear m0_ m1_ m2_
                                  refine hK.out _ _ ⟨k0_, k1_, k2_, k3_, k4_⟩ (fun hHeld => ?_)
                                  clear hK K
                                  have hzA := k0_
                                  have hvA0 := k1_
                                  have hfA0 := k2_
                                  have hzB := k3_
                                  have hvB0 := k4_
                                  clear k0_ k1_ k2_ k3_ k4_
                                  refine norm_ (a' := ?_) ?_ ?_
                                  rotate_left
                                  · show Act.put _ (some 190) _ = _
                                    simp only [Act.put, List.setIfInBounds_toArray, List.set_cons_zero, List.set_cons_succ, i64_w, i32_w]
                                    rfl
                                  refine pure_ (i := 23) (N := some 191) (v := ?_) (a' := ?_) #[true, true, true, true, true, true, true, true, true, true, true, true, true, true, true, true, true, true, true, true, true, true, true, true, false] rfl rfl (any_of HT_.out (by kernel_rfl)) (fun _ _ _ h => h) (Or.inl ⟨by rfl, ?_⟩) ?_ ?_
                                  rotate_left
                                  · intro w'
                                    go_simp
                                    with_reducible rfl
                                  rotate_left
                                  · simp only [Act.put, List.setIfInBounds_toArray, List.set_cons_zero, List.set_cons_succ, i64_w, i32_w]
                                    rfl
                                  refine last_ (i := 24) (N := none) #[true, true, true, true, true, true, true, true, true, true, true, true, true, true, true, true, true, true, true, true, true, true, true, true, true] rfl rfl (one_of HT_.out (by kernel_rfl)) (by decide) (fun K hK => ?_)
                                  refine skip_ (w1 := ?_) (by rfl) rfl ?_ ?_
                                  rotate_left
                                  · first | (go_simp; done) | (go_simp; rfl)
                                  refine hK.out _ _ ?_
                                  clear hK K
                                  refine done_ (done_of HT_.out (by kernel_rfl)) ?_
                                  obtain ⟨hst, hok_, hbs_⟩ := mx_store SL.out x HX0.out HX1.out (HSL.out.at _ HX0.out HX1.out) (by have := HM.out; omega) hzA y (iv.inF (wrap64 (iv.gt Lc x y - wrap64 (iv.gt Lb x c * iv.gt Lc c y)))) HY0.out HY1.out
                                  have n0_ : Aside0 (Mx 2 22 (World.setCell w7 ⟨grA, (y).toNat, none⟩ (.int .i64 (iv.inF (wrap64 (iv.gt Lc x y - wrap64 (iv.gt Lb x c * iv.gt Lc c y)))))) w.heap.size (fun k_ => ¬ (b1 ≤ k_ ∧ k_ < b2)) (.slice (some ⟨gL, 0, none⟩) l0.length cL) (iv.pt Lc x y (iv.inF (wrap64 (iv.gt Lc x y - wrap64 (iv.gt Lb x c * iv.gt Lc c y)))))) := ⟨hst⟩
                                  have n1_ : Aside0 (Mx 2 22 (World.setCell w7 ⟨grA, (y).toNat, none⟩ (.int .i64 (iv.inF (wrap64 (iv.gt Lc x y - wrap64 (iv.gt Lb x c * iv.gt Lc c y)))))) w.heap.size (fun k_ => b1 ≤ k_ ∧ k_ < b2) (.slice (some ⟨gR, 0, none⟩) l0.length cR) Rc) := ⟨mx_far SR.out hok_ _ _⟩
                                  have n2_ : Aside0 (Below w.heap.size w (World.setCell w7 ⟨grA, (y).toNat, none⟩ (.int .i64 (iv.inF (wrap64 (iv.gt Lc x y - wrap64 (iv.gt Lb x c * iv.gt Lc c y))))))) := ⟨below_set HB.out hbs_⟩
                                  clear hst hok_ hbs_ hHeld HT_ HW_ hzA hvA0 hfA0 hzB hvB0
                                  clear SL SR HB
                                  generalize (World.setCell w7 ⟨grA, (y).toNat, none⟩ (.int .i64 (iv.inF (wrap64 (iv.gt Lc x y - wrap64 (iv.gt Lb x c * iv.gt Lc c y)))))) = w8 at n0_ n1_ n2_ ⊢
                                  have SL := n0_
                                  have SR := n1_
                                  have HB := n2_
                                  clear n0_ n1_ n2_
                                  try go_wp2
                                  (first | (rw [drewN_self w8]; generalize hq_ : World.drewN w8 _ = w9) | (rw [drew_self w8]; generalize hq1_ : World.drew w8 = w9; have hq_ : World.drewN w8 1 = w9 := hq1_; clear hq1_) | (rw [show w8 = World.drewN w8 0 from rfl]; generalize hq_ : World.drewN w8 0 = w9))
                                  have n_ := Aside0.mk (Kd.S_at hq_ SL.out); clear SL; have SL := n_; clear n_
                                  have n_ := Aside0.mk (Kd.S_at hq_ SR.out); clear SR; have SR := n_; clear n_
                                  have n_ := Aside0.mk (ar_below_at hq_ HB.out); clear HB; have HB := n_; clear n_
                                  clear hq_
                                  have n_ := Aside0.mk (Kd.S_drew SL.out); clear SL; have SL := n_; clear n_
                                  have n_ := Aside0.mk (Kd.S_drew SR.out); clear SR; have SR := n_; clear n_
                                  have n_ := Aside0.mk (below_drew1 HB.out); clear HB; have HB := n_; clear n_
                                  obtain ⟨grA, crA, hzA, hfA_, hbA_, hkA_, hnA_, hcA_, _⟩ := mx_atm (m := l0.length) SR.out x HX0.out HX1.out (HSR.out.at _ HX0.out HX1.out) (by have := HM.out; omega)
                                  obtain ⟨hvA0, hfA0⟩ := hcA_ y HY0.out HY1.out
                                  clear hfA_ hbA_ hkA_ hnA_ hcA_
                                  obtain ⟨grB, crB, hzB, hfB_, hbB_, hkB_, hnB_, hcB_, _⟩ := mx_atm (m := l0.length) SR.out c HC0.out HC1.out (HSR.out.at _ HC0.out HC1.out) (by have := HM.out; omega)
                                  obtain ⟨hvB0, hfB0⟩ := hcB_ y HY0.out HY1.out
                                  clear hfB_ hbB_ hkB_ hnB_ hcB_
                                  clear hfB0
                                  refine start_ (n := 25) (S := fun w' => w'.cell? ⟨gR, (x).toNat, none⟩ = some (.slice (some ⟨grA, 0, none⟩) l0.length crA) ∧ w'.cell? ⟨grA, (y).toNat, none⟩ = some (.int .i64 (iv.gt Rc x y)) ∧ w'.frozen? ⟨grA, (y).toNat, none⟩ = false ∧ w'.cell? ⟨gR, (c).toNat, none⟩ = some (.slice (some ⟨grB, 0, none⟩) l0.length crB) ∧ w'.cell? ⟨grB, (y).toNat, none⟩ = some (.int .i64 (iv.gt Rc c y))) (ds := [24]) #[false, false, false, false, false, false, false, false, false, false, false, false, false, false, false, false, false, false, false, false, false, false, false, false, false] (by kernel_rfl) rfl rfl ⟨hzA, hvA0, hfA0, hzB, hvB0⟩ (fun hHeld => ?_)
                                  refine with_tabW impl_inverseIn.tab37 impl_inverseIn.bits37 (fun HT_ HW_ => ?_)
                                  generalize w9.drew = w10 at SL SR HB hzA hvA0 hfA0 hzB hvB0 hHeld ⊢
                                  refine pure_ (i := 0) (N := some 192) (v := ?_) (a' := ?_) #[true, false, false, false, false, false, false, false, false, false, false, false, false, false, false, false, false, false, false, false, false, false, false, false, false] rfl rfl (any_of HT_.out (by kernel_rfl)) (fun _ _ _ h => h) (Or.inl ⟨by rfl, ?_⟩) ?_ ?_
                                  rotate_left
                                  · intro w'
                                    go_simp
                                    with_reducible rfl
                                  rotate_left
                                  · simp only [Act.put, List.setIfInBounds_toArray, List.set_cons_zero, List.set_cons_succ, i64_w, i32_w]
                                    rfl
                                  refine pure_ (i := 1) (N := some 193) (v := ?_) (a' := ?_) #[true, true, false, false, false, false, false, false, false, false, false, false, false, false, false, false, false, false, false, false, false, false, false, false, false] rfl rfl (any_of HT_.out (by kernel_rfl)) (fun _ _ _ h => h) (Or.inl ⟨by rfl, ?_⟩) ?_ ?_
                                  rotate_left
                                  · intro w'
                                    go_simp
                                    with_reducible rfl
                                  rotate_left
                                  · simp only [Act.put, List.setIfInBounds_toArray, List.set_cons_zero, List.set_cons_succ, i64_w, i32_w]
                                    rfl
                                  refine pure_ (i := 2) (N := some 194) (v := ?_) (a' := ?_) #[true, true, true, false, false, false, false, false, false, false, false, false, false, false, false, false, false, false, false, false, false, false, false, false, false] rfl rfl (any_of HT_.out (by kernel_rfl)) (fun _ _ _ h => h) (Or.inl ⟨by rfl, ?_⟩) ?_ ?_
                                  rotate_left
                                  · intro w'
                                    go_simp
                                    with_reducible rfl
                                  rotate_left
                                  · simp only [Act.put, List.setIfInBounds_toArray, List.set_cons_zero, List.set_cons_succ, i64_w, i32_w]
                                    rfl
                                  refine pure_ (i := 4) (N := some 196) (v := ?_) (a' := ?_) #[true, true, true, false, true, false, false, false, false, false, false, false, false, false, false, false, false, false, false, false, false, false, false, false, false] rfl rfl (any_of HT_.out (by kernel_rfl)) (fun _ _ _ h => h) (Or.inl ⟨by rfl, ?_⟩) ?_ ?_
                                  rotate_left
                                  · intro w'
                                    go_simp
                                    with_reducible rfl
                                  rotate_left
                                  · simp only [Act.put, List.setIfInBounds_toArray, List.set_cons_zero, List.set_cons_succ, i64_w, i32_w]
                                    rfl
                                  refine pure_ (i := 5) (N := some 197) (v := ?_) (a' := ?_) #[true, true, true, false, true, true, false, false, false, false, false, false, false, false, false, false, false, false, false, false, false, false, false, false, false] rfl rfl (any_of HT_.out (by kernel_rfl)) (fun _ _ _ h => h) (Or.inl ⟨by rfl, ?_⟩) ?_ ?_
                                  rotate_left
                                  · intro w'
                                    go_simp
                                    with_reducible rfl
                                  rotate_left
                                  · simp only [Act.put, List.setIfInBounds_toArray, List.set_cons_zero, List.set_cons_succ, i64_w, i32_w]
                                    rfl
                                  refine pure_ (i := 6) (N := some 198) (v := ?_) (a' := ?_) #[true, true, true, false, true, true, true, false, false, false, false, false, false, false, false, false, false, false, false, false, false, false, false, false, false] rfl rfl (any_of HT_.out (by kernel_rfl)) (fun _ _ _ h => h) (Or.inl ⟨by rfl, ?_⟩) ?_ ?_
                                  rotate_left
                                  · intro w'
                                    go_simp
                                    with_reducible rfl
                                  rotate_left
                                  · simp only [Act.put, List.setIfInBounds_toArray, List.set_cons_zero, List.set_cons_succ, i64_w, i32_w]
                                    rfl
                                  refine pure_ (i := 7) (N := some 199) (v := ?_) (a' := ?_) #[true, true, true, false, true, true, true, true, false, false, false, false, false, false, false, false, false, false, false, false, false, false, false, false, false] rfl rfl (any_of HT_.out (by kernel_rfl)) (fun _ _ _ h => h) (Or.inl ⟨by rfl, ?_⟩) ?_ ?_
                                  rotate_left
                                  · intro w'
                                    go_simp
                                    with_reducible rfl
                                  rotate_left
                                  · simp only [Act.put, List.setIfInBounds_toArray, List.set_cons_zero, List.set_cons_succ, i64_w, i32_w]
                                    rfl
                                  refine pure_ (i := 9) (N := some 201) (v := ?_) (a' := ?_) #[true, true, true, false, true, true, true, true, false, true, false, false, false, false, false, false, false, false, false, false, false, false, false, false, false] rfl rfl (any_of HT_.out (by kernel_rfl)) (fun _ _ _ h => h) (Or.inl ⟨by rfl, ?_⟩) ?_ ?_
                                  rotate_left
                                  · intro w'
                                    go_simp
                                    with_reducible rfl
                                  rotate_left
                                  · simp only [Act.put, List.setIfInBounds_toArray, List.set_cons_zero, List.set_cons_succ, i64_w, i32_w]
                                    rfl
                                  refine pure_ (i := 12) (N := some 204) (v := ?_) (a' := ?_) #[true, true, true, false, true, true, true, true, false, true, false, false, true, false, false, false, false, false, false, false, false, false, false, false, false] rfl rfl (any_of HT_.out (by kernel_rfl)) (fun _ _ _ h => h) (Or.inl ⟨by rfl, ?_⟩) ?_ ?_
                                  rotate_left
                                  · intro w'
                                    go_simp
                                    with_reducible rfl
                                  rotate_left
                                  · simp only [Act.put, List.setIfInBounds_toArray, List.set_cons_zero, List.set_cons_succ, i64_w, i32_w]
                                    rfl
                                  refine pure_ (i := 13) (N := some 205) (v := ?_) (a' := ?_) #[true, true, true, false, true, true, true, true, false, true, false, false, true, true, false, false, false, false, false, false, false, false, false, false, false] rfl rfl (any_of HT_.out (by kernel_rfl)) (fun _ _ _ h => h) (Or.inl ⟨by rfl, ?_⟩) ?_ ?_
                                  rotate_left
                                  · intro w'
                                    go_simp
                                    with_reducible rfl
                                  rotate_left
                                  · simp only [Act.put, List.setIfInBounds_toArray, List.set_cons_zero, List.set_cons_succ, i64_w, i32_w]
                                    rfl
                                  refine pure_ (i := 14) (N := some 206) (v := ?_) (a' := ?_) #[true, true, true, false, true, true, true, true, false, true, false, false, true, true, true, false, false, false, false, false, false, false, false, false, false] rfl rfl (any_of HT_.out (by kernel_rfl)) (fun _ _ _ h => h) (Or.inl ⟨by rfl, ?_⟩) ?_ ?_
                                  rotate_left
                                  · intro w'
                                    go_simp
                                    with_reducible rfl
                                  rotate_left
                                  · simp only [Act.put, List.setIfInBounds_toArray, List.set_cons_zero, List.set_cons_succ, i64_w, i32_w]
                                    rfl
                                  refine pure_ (i := 15) (N := some 207) (v := ?_) (a' := ?_) #[true, true, true, false, true, true, true, true, false, true, false, false, true, true, true, true, false, false, false, false, false, false, false, false, false] rfl rfl (any_of HT_.out (by kernel_rfl)) (fun _ _ _ h => h) (Or.inl ⟨by rfl, ?_⟩) ?_ ?_
                                  rotate_left
                                  · intro w'
                                    go_simp
                                    with_reducible rfl
                                  rotate_left
                                  · simp only [Act.put, List.setIfInBounds_toArray, List.set_cons_zero, List.set_cons_succ, i64_w, i32_w]
                                    rfl
                                  refine pure_ (i := 17) (N := some 209) (v := ?_) (a' := ?_) #[true, true, true, false, true, true, true, true, false, true, false, false, true, true, true, true, false, true, false, false, false, false, false, false, false] rfl rfl (any_of HT_.out (by kernel_rfl)) (fun _ _ _ h => h) (Or.inl ⟨by rfl, ?_⟩) ?_ ?_
                                  rotate_left
                                  · intro w'
                                    go_simp
                                    with_reducible rfl
                                  rotate_left
                                  · simp only [Act.put, List.setIfInBounds_toArray, List.set_cons_zero, List.set_cons_succ, i64_w, i32_w]
                                    rfl
                                  refine take_ (i := 3) (N := some 195) (v := ?_) (a' := ?_) #[true, true, true, true, true, true, true, true, false, true, false, false, true, true, true, true, false, true, false, false, false, false, false, false, false] rfl rfl (take_ofW HT_.out HW_.out (by kernel_rfl)) (fun _ _ _ h => h) (Or.inl ⟨by rfl, ?_⟩) hHeld ?_ ?_
                                  rotate_left
                                  · rintro w' ⟨s0, s1, s2, s3, s4⟩
                                    go_simp
                                    with_reducible rfl
                                  rotate_left
                                  · simp only [Act.put, List.setIfInBounds_toArray, List.set_cons_zero, List.set_cons_succ, i64_w, i32_w]
                                    rfl
                                  refine take_ (i := 8) (N := some 200) (v := ?_) (a' := ?_) #[true, true, true, true, true, true, true, true, true, true, false, false, true, true, true, true, false, true, false, false, false, false, false, false, false] rfl rfl (take_ofW HT_.out HW_.out (by kernel_rfl)) (fun _ _ _ h => h) (Or.inl ⟨by rfl, ?_⟩) hHeld ?_ ?_
                                  rotate_left
                                  · rintro w' ⟨s0, s1, s2, s3, s4⟩
                                    go_simp
                                    with_reducible rfl
                                  rotate_left
                                  · simp only [Act.put, List.setIfInBounds_toArray, List.set_cons_zero, List.set_cons_succ, i64_w, i32_w]
                                    rfl
                                  refine pure_ (i := 10) (N := some 202) (v := ?_) (a' := ?_) #[true, true, true, true, true, true, true, true, true, true, true, false, true, true, true, true, false, true, false, false, false, false, false, false, false] rfl rfl (any_of HT_.out (by kernel_rfl)) (fun _ _ _ h => h) (Or.inl ⟨by rfl, ?_⟩) ?_ ?_
                                  rotate_left
                                  · intro w'
                                    go_simp
                                    with_reducible rfl
                                  rotate_left
                                  · simp only [Act.put, List.setIfInBounds_toArray, List.set_cons_zero, List.set_cons_succ, i64_w, i32_w]
                                    rfl
                                  refine take_ (i := 11) (N := some 203) (v := ?_) (a' := ?_) #[true, true, true, true, true, true, true, true, true, true, true, true, true, true, true, true, false, true, false, false, false, false, false, false, false] rfl rfl (take_ofW HT_.out HW_.out (by kernel_rfl)) (fun _ _ _ h => h) (Or.inl ⟨by rfl, ?_⟩) hHeld ?_ ?_
                                  rotate_left
                                  · rintro w' ⟨s0, s1, s2, s3, s4⟩
                                    go_simp
                                    with_reducible rfl
                                  rotate_left
                                  · simp only [Act.put, List.setIfInBounds_toArray, List.set_cons_zero, List.set_cons_succ, i64_w, i32_w]
                                    rfl
                                  refine take_ (i := 16) (N := some 208) (v := ?_) (a' := ?_) #[true, true, true, true, true, true, true, true, true, true, true, true, true, true, true, true, true, true, false, false, false, false, false, false, false] rfl rfl (take_ofW HT_.out HW_.out (by kernel_rfl)) (fun _ _ _ h => h) (Or.inl ⟨by rfl, ?_⟩) hHeld ?_ ?_
                                  rotate_left
                                  · rintro w' ⟨s0, s1, s2, s3, s4⟩
                                    go_simp
                                    with_reducible rfl
                                  rotate_left
                                  · simp only [Act.put, List.setIfInBounds_toArray, List.set_cons_zero, List.set_cons_succ, i64_w, i32_w]
                                    rfl
                                  refine pure_ (i := 18) (N := some 210) (v := ?_) (a' := ?_) #[true, true, true, true, true, true, true, true, true, true, true, true, true, true, true, true, true, true, true, false, false, false, false, false, false] rfl rfl (any_of HT_.out (by kernel_rfl)) (fun _ _ _ h => h) (Or.inl ⟨by rfl, ?_⟩) ?_ ?_
                                  rotate_left
                                  · intro w'
                                    go_simp
                                    with_reducible rfl
                                  rotate_left
                                  · simp only [Act.put, List.setIfInBounds_toArray, List.set_cons_zero, List.set_cons_succ, i64_w, i32_w]
                                    rfl
                                  refine take_ (i := 19) (N := some 211) (v := ?_) (a' := ?_) #[true, true, true, true, true, true, true, true, true, true, true, true, true, true, true, true, true, true, true, true, false, false, false, false, false] rfl rfl (take_ofW HT_.out HW_.out (by kernel_rfl)) (fun _ _ _ h => h) (Or.inl ⟨by rfl, ?_⟩) hHeld ?_ ?_
                                  rotate_left
                                  · rintro w' ⟨s0, s1, s2, s3, s4⟩
                                    go_simp
                                    with_reducible rfl
                                  rotate_left
                                  · simp only [Act.put, List.setIfInBounds_toArray, List.set_cons_zero, List.set_cons_succ, i64_w, i32_w]
                                    rfl
                                  refine pure_ (i := 20) (N := some 212) (v := ?_) (a' := ?_) #[true, true, true, true, true, true, true, true, true, true, true, true, true, true, true, true, true, true, true, true, true, false, false, false, false] rfl rfl (any_of HT_.out (by kernel_rfl)) (fun _ _ _ h => h) (Or.inl ⟨by rfl, ?_⟩) ?_ ?_
                                  rotate_left
                                  · intro w'
                                    go_simp
                                    with_reducible rfl
                                  rotate_left
                                  · simp only [Act.put, List.setIfInBounds_toArray, List.set_cons_zero, List.set_cons_succ, i64_w, i32_w]
                                    rfl
                                  refine pure_ (i := 21) (N := some 213) (v := ?_) (a' := ?_) #[true, true, true, true, true, true, true, true, true, true, true, true, true, true, true, true, true, true, true, true, true, true, false, false, false] rfl rfl (any_of HT_.out (by kernel_rfl)) (fun _ _ _ h => h) (Or.inl ⟨by rfl, ?_⟩) ?_ ?_
                                  rotate_left
                                  · intro w'
                                    go_simp
                                    with_reducible rfl
                                  rotate_left
                                  · simp only [Act.put, List.setIfInBounds_toArray, List.set_cons_zero, List.set_cons_succ, i64_w, i32_w]
                                    rfl
                                  refine one_ (i := 22) (N := some 214) #[true, true, true, true, true, true, true, true, true, true, true, true, true, true, true, true, true, true, true, true, true, true, true, false, false] rfl rfl (one_of HT_.out (by kernel_rfl)) (by decide) (fun K hK => ?_)
                                  refine goes_ Try.func28 (by kernel_rfl) rfl #[.int .i64 (wrap64 (iv.gt Rc x y - wrap64 (iv.gt Lb x c * iv.gt Rc c y)))] (by rfl) rfl rfl (by (try simp only [List.map_toArray, List.map_cons, List.map_nil]); first | done | rfl) ?_
                                  refine (impl_inField.calls (wrap64 (iv.gt Rc x y - wrap64 (iv.gt Lb x c * iv.gt Rc c y))) (iv.inF (wrap64 (iv.gt Rc x y - wrap64 (iv.gt Lb x c * iv.gt Rc c y)))) _ rfl).mono ?_
                                  rintro e wf ⟨rfl, ⟨nd, rfl⟩⟩
                                  refine ⟨_, rfl, ?_⟩
                                  have m0_ := Aside0.mk (Kd.S_drewN SL.out nd)
                                  have m1_ := Aside0.mk (Kd.S_drewN SR.out nd)
                                  have m2_ := Aside0.mk (pw_below_drewN HB.out nd)
                                  have k0_ : (World.drewN w10 nd).cell? ⟨gR, (x).toNat, none⟩ = some (.slice (some ⟨grA, 0, none⟩) l0.length crA) := hzA
                                  have k1_ : (World.drewN w10 nd).cell? ⟨grA, (y).toNat, none⟩ = some (.int .i64 (iv.gt Rc x y)) := hvA0
                                  have k2_ : (World.drewN w10 nd).frozen? ⟨grA, (y).toNat, none⟩ = false := hfA0
                                  have k3_ : (World.drewN w10 nd).cell? ⟨gR, (c).toNat, none⟩ = some (.slice (some ⟨grB, 0, none⟩) l0.length crB) := hzB
                                  have k4_ : (World.drewN w10 nd).cell? ⟨grB, (y).toNat, none⟩ = some (.int .i64 (iv.gt Rc c y)) := hvB0
                                  clear SL SR HB hzA hvA0 hfA0 hzB hvB0 hHeld
                                  generalize World.drewN w10 nd = w10 at m0_ m1_ m2_ k0_ k1_ k2_ k3_ k4_ ⊢
                                  have SL := m0_
                                  have SR := m1_
                                  have HB := m2_
                                  clear m0_ m1_ m2_
                                  refine hK.out _ _ ⟨k0_, k1_, k2_, k3_, k4_⟩ (fun hHeld => ?_)
                                  clear hK K
                                  have hzA := k0_
                                  have hvA0 := k1_
                                  have hfA0 := k2_
                                  have hzB := k3_
                                  have hvB0 := k4_
                                  clear k0_ k1_ k2_ k3_ k4_
                                  refine norm_ (a' := ?_) ?_ ?_
                                  rotate_left
                                  · show Act.put _ (some 214) _ = _
                                    simp only [Act.put, List.setIfInBounds_toArray, List.set_cons_zero, List.set_cons_succ, i64_w, i32_w]
                                    rfl
                                  refine pure_ (i := 23) (N := some 215) (v := ?_) (a' := ?_) #[true, true, true, true, true, true, true, true, true, true, true, true, true, true, true, true, true, true, true, true, true, true, true, true, false] rfl rfl (any_of HT_.out (by kernel_rfl)) (fun _ _ _ h => h) (Or.inl ⟨by rfl, ?_⟩) ?_ ?_
                                  rotate_left
                                  · intro w'
                                    go_simp
                                    with_reducible rfl
                                  rotate_left
                                  · simp only [Act.put, List.setIfInBounds_toArray, List.set_cons_zero, List.set_cons_succ, i64_w, i32_w]
                                    rfl
                                  refine last_ (i := 24) (N := none) #[true, true, true, true, true, true, true, true, true, true, true, true, true, true, true, true, true, true, true, true, true, true, true, true, true] rfl rfl (one_of HT_.out (by kernel_rfl)) (by decide) (fun K hK => ?_)
                                  refine skip_ (w1 := ?_) (by rfl) rfl ?_ ?_
                                  rotate_left
                                  · first | (go_simp; done) | (go_simp; rfl)
                                  refine hK.out _ _ ?_
                                  clear hK K
                                  refine done_ (done_of HT_.out (by kernel_rfl)) ?_
                                  obtain ⟨hst, hok_, hbs_⟩ := mx_store SR.out x HX0.out HX1.out (HSR.out.at _ HX0.out HX1.out) (by have := HM.out; omega) hzA y (iv.inF (wrap64 (iv.gt Rc x y - wrap64 (iv.gt Lb x c * iv.gt Rc c y)))) HY0.out HY1.out
                                  have n0_ : Aside0 (Mx 2 22 (World.setCell w10 ⟨grA, (y).toNat, none⟩ (.int .i64 (iv.inF (wrap64 (iv.gt Rc x y - wrap64 (iv.gt Lb x c * iv.gt Rc c y)))))) w.heap.size (fun k_ => ¬ (b1 ≤ k_ ∧ k_ < b2)) (.slice (some ⟨gL, 0, none⟩) l0.length cL) (iv.pt Lc x y (iv.inF (wrap64 (iv.gt Lc x y - wrap64 (iv.gt Lb x c * iv.gt Lc c y)))))) := ⟨mx_far SL.out (fun h_ => h_ hok_) _ _⟩
                                  have n1_ : Aside0 (Mx 2 22 (World.setCell w10 ⟨grA, (y).toNat, none⟩ (.int .i64 (iv.inF (wrap64 (iv.gt Rc x y - wrap64 (iv.gt Lb x c * iv.gt Rc c y)))))) w.heap.size (fun k_ => b1 ≤ k_ ∧ k_ < b2) (.slice (some ⟨gR, 0, none⟩) l0.length cR) (iv.pt Rc x y (iv.inF (wrap64 (iv.gt Rc x y - wrap64 (iv.gt Lb x c * iv.gt Rc c y)))))) := ⟨hst⟩
                                  have n2_ : Aside0 (Below w.heap.size w (World.setCell w10 ⟨grA, (y).toNat, none⟩ (.int .i64 (iv.inF (wrap64 (iv.gt Rc x y - wrap64 (iv.gt Lb x c * iv.gt Rc c y))))))) := ⟨below_set HB.out hbs_⟩
                                  clear hst hok_ hbs_ hHeld HT_ HW_ hzA hvA0 hfA0 hzB hvB0
                                  clear SL SR HB
                                  generalize (World.setCell w10 ⟨grA, (y).toNat, none⟩ (.int .i64 (iv.inF (wrap64 (iv.gt Rc x y - wrap64 (iv.gt Lb x c * iv.gt Rc c y)))))) = w11 at n0_ n1_ n2_ ⊢
                                  have SL := n0_
                                  have SR := n1_
                                  have HB := n2_
                                  clear n0_ n1_ n2_
                                  try go_wp2
                                  go_roundg k4
                                  case measure => omega
                                  case rel =>
                                    have HW2 := Aside0.mk (show wrap64 (y + 1) = y + 1 by have := HY0.out; have := HY1.out; have := HM.out; unfold wrap64; omega)
                                    exact ⟨(iv.pt Lc x y (iv.inF (wrap64 (iv.gt Lc x y - wrap64 (iv.gt Lb x c * iv.gt Lc c y))))), (iv.pt Rc x y (iv.inF (wrap64 (iv.gt Rc x y - wrap64 (iv.gt Lb x c * iv.gt Rc c y))))), wrap64 (y + 1), s, (by first | rfl | (simp; done) | (simp [*]; done)), ⟨by have := HQ4.out; omega⟩, ⟨by have := HY.out; rw [HW2.out]; omega⟩, ⟨by rw [HW2.out]; exact HE.out⟩, ⟨HSL.out.pt _ _ _ HX0.out HX1.out⟩, ⟨HSR.out.pt _ _ _ HX0.out HX1.out⟩, ⟨(by (with_reducible repeat (first | apply Kd.S_alloc | apply Kd.S_drewN | apply Kd.S_drew)); exact SL.out)⟩, ⟨(by (with_reducible repeat (first | apply Kd.S_alloc | apply Kd.S_drewN | apply Kd.S_drew)); exact SR.out)⟩, ⟨(by repeat (first | (with_reducible first | exact HB.out | apply below_alloc | apply pw_below_drewN | apply below_drew1) | exact HB.out))⟩⟩


end Go.Proofs.Ytifmdgffimckgaa.MFnExactKrammerTrace
