-- Walks of the functions that a law reaches, one after the other: plain functions, and that the machine's calls come to what they tell (wip/tools/myprint.py of this repo).
import Derived.Test.YtcbomfkimohlfaaMFnExactComponentLinkingsx0
import Derived.Test.YtcbomfkimohlfaaMFnExactComponentLinkingsx2
import Derived.Test.YtcbomfkimohlfaaMFnExactComponentLinkingsx3
import Derived.Test.YtcbomfkimohlfaaLibArr
import Derived.Test.YtcbomfkimohlfaaLibMx
import Derived.Test.YtcbomfkimohlfaaLibCr
import Derived.Test.YtcbomfkimohlfaaLibCl
namespace Go.Proofs.Ytcbomfkimohlfaa.MFnExactComponentLinkings
open Go.RowKit Go.Proofs.YtcbomfkimohlfaaW.PrintWords Go.Proofs.YtcbomfkimohlfaaW.PrintLast Go.Proofs.YtcbomfkimohlfaaW.PrintMore
open Go.Proofs.Ytcbomfkimohlfaa.LibCl
open Go.Proofs.Ytcbomfkimohlfaa.LibCr
open Go.Proofs.Ytcbomfkimohlfaa.LibMx
open Go.Proofs.Ytcbomfkimohlfaa.LibArr
attribute [local go_sem] max2_int min2_int max_two min_two max_three min_three max_four min_four   -- for this text's walks alone
set_option linter.unusedVariables false
set_option linter.unusedSimpArgs false

/-! ### spec_ComponentLinkings: function 41 -/
def spec_ComponentLinkings.f (k : Nat) (a0_0 : Int) (l0_1 : List Int) : Option (List (List Int) × Int) := (spec_l01Is.f k a0_0 l0_1).bind fun t => if t = true then (if l11.good a0_0 l0_1 = true ∧ cr.good l0_1 then (l11.f k a0_0 l0_1).bind fun t => if cl.okW a0_0.toNat t.2.toNat t.1 ∧ 1 ≤ t.2 ∧ t.2 ≤ 8 then some (cl.tab (cr.runT l0_1 (cr.fill a0_0.toNat) (List.replicate 64 0)) t.1 a0_0.toNat t.2.toNat, 0) else none else none) else some ([], 1)
theorem spec_ComponentLinkings.mono : ∀ a0 a1 k, LeO (spec_ComponentLinkings.f k a0 a1) (spec_ComponentLinkings.f (k + 1) a0 a1) := by
 intro a0 a1 k
 unfold spec_ComponentLinkings.f
 exact LeO.bind (spec_l01Is.mono _ _ _) (fun _ => LeO.ite (LeO.ite (LeO.bind (l11.mono _ _ _) (fun _ => LeO.refl _)) (LeO.refl _)) (LeO.refl _))
def spec_ComponentLinkings.T15 : Bool × List (List Nat × List Nat) := (true, [([], []), ([], []), ([1], [1]), ([2], [2]), ([], []), ([], []), ([5], [5]), ([6], [6]), ([4, 7], [4, 7]), ([8], [8]), ([], []), ([], []), ([10], [10]), ([12, 11], [11, 12]), ([13], [13]), ([9, 14], [9, 14]), ([0, 3, 0, 1, 2, 3, 4, 5, 6, 7, 8, 9, 10, 11, 12, 13, 14, 15], [0, 3]), ([16, 15, 0, 1, 2, 3, 4, 5, 6, 7, 8, 9, 10, 11, 12, 13, 14, 15], [15, 16])])
def spec_ComponentLinkings.B15 : List Nat := [0, 0, 2, 6, 0, 0, 32, 96, 240, 496, 0, 0, 1024, 7168, 15360, 32752, 65535, 131071]
theorem spec_ComponentLinkings.tab15 : rtab .any (opsOf Try.f41 15) = spec_ComponentLinkings.T15 := by kernel_rfl
theorem spec_ComponentLinkings.bits15 : waitsOk spec_ComponentLinkings.T15.2 spec_ComponentLinkings.B15 = true := by kernel_rfl
set_option maxHeartbeats 8000000 in
set_option maxRecDepth 100000 in
theorem spec_ComponentLinkings.calls (k : Nat) (a0_0 : Int) (A0_1 : Option Addr) (c0_1 : Nat) (l0_1 : List Int) (r1 : List (List Int)) (r2 : Int) (w : World) (hr0_1 : Kd.C (Kd.int .i64) w A0_1 l0_1.length l0_1) (hc0_1 : l0_1.length ≤ c0_1) (h : spec_ComponentLinkings.f k a0_0 l0_1 = some (r1, r2)) :
  Calls Try.prog 41 #[.agg #[.int .i64 a0_0, .slice A0_1 l0_1.length c0_1]] w fun e w' => ∃ v0_ : Value, e = .returned (.tuple #[v0_, .int .i64 r2]) ∧ Kd.S (Kd.slice 2 (Kd.int .i64)) 22 w' w.heap.size (fun _ => True) v0_ r1 ∧ Below w.heap.size w w' := by
 have hu := Try.underlying26
 have hu8 := Try.underlying60
 have hu59 := Try.underlying59
 have HR0 := Aside0.mk hr0_1
 have HC0 := Aside0.mk hc0_1
 clear hr0_1 hc0_1
 have HB := Aside0.mk (Below.refl w.heap.size w)
 have H0 := h
 clear h
 unfold spec_ComponentLinkings.f at H0
 obtain ⟨t1, A1_, H1⟩ := Option.bind_eq_some_iff.mp H0
 clear H0
 have A1 := Aside0.mk A1_
 clear A1_
 cases t1 with
 | false =>
  simp only [Bool.false_eq_true, if_false, Option.some.injEq, Prod.mk.injEq] at H1
  obtain ⟨rfl, rfl⟩ := H1
  go_enter Try.func41, Try.ntmps41
  go_wp2_with (first | ((with_reducible refine gate_dst (N := 1) rfl ?_); refine box_event ?hg (N := 1) ?hd (cs := #[.int .i64 a0_0, .slice A0_1 l0_1.length c0_1]) (t := 26) ?hr ?_; (case hd => rfl); (case hg => rfl); (case hr => first | (go_simp; done) | (go_simp; rfl)); intro gb hg w1 hbox hb; have n_ := Aside0.mk (below_step (by repeat (first | (with_reducible first | exact HB.out | apply below_alloc | apply pw_below_drewN | apply below_drew1) | exact HB.out)) hb); clear HB; have HB := n_; clear n_; have HCB0 := Aside0.mk ((blk_cell hbox 0).trans rfl); have HCB1 := Aside0.mk ((blk_cell hbox 1).trans rfl); have HB2 := Aside0.mk (Below.refl w1.heap.size w1); have HRA := Aside0.mk (Kd.C_below HR0.out HB.out); clear hg hb; have hzgb_0 := (blk_cell hbox 0).trans rfl; have hzgb_1 := (blk_cell hbox 1).trans rfl; clear hbox) | ((with_reducible refine gate_callee (f := 44) rfl ?_); refine goesL_ (some 14) rfl rfl Try.func44 (by kernel_rfl) rfl #[.agg #[.int .i64 a0_0, .slice A0_1 l0_1.length c0_1]] rfl (by (try simp only [List.map_toArray, List.map_cons, List.map_nil]); first | done | rfl) ?_; (with_reducible refine (spec_l01Is.calls k a0_0 _ _ l0_1 _ _ ?side1 ?side2 A1.out).mono ?_); (case side1 => repeat (first | exact (Kd.C_below HRA.out HB2.out) | (with_reducible refine Kd.C_alloc ?_ _) | (with_reducible refine Kd.C_drewN ?_ _) | (with_reducible refine Kd.C_drew ?_))); (case side2 => exact HC0.out); rintro e wi ⟨rfl, hb⟩; refine ⟨_, rfl, ?_⟩; have n_ := Aside0.mk (below_step (by repeat (first | (with_reducible first | exact HB2.out | apply below_alloc | apply pw_below_drewN | apply below_drew1) | exact HB2.out)) hb); clear HB2; have HB2 := n_; clear n_; clear hb; (try clear hzgb_0 hzgb_1); have hzgb_0 := (HB2.out.cell (World.block_lt_of_cell? w1 _ HCB0.out)).trans HCB0.out; have hzgb_1 := (HB2.out.cell (World.block_lt_of_cell? w1 _ HCB1.out)).trans HCB1.out))
  go_ret2
  exact ⟨_, rfl, Kd.S_nil _ _ _ _ _, below_step HB.out (by repeat (first | (with_reducible first | exact HB2.out | apply below_alloc | apply pw_below_drewN | apply below_drew1) | exact HB2.out))⟩
 | true =>
  simp only [if_true] at H1
  by_cases hg : l11.good a0_0 l0_1 = true ∧ cr.good l0_1
  case neg => rw [if_neg hg] at H1; cases H1
  rw [if_pos hg] at H1
  obtain ⟨t, A2_, H2⟩ := Option.bind_eq_some_iff.mp H1
  clear H1
  by_cases hk : cl.okW a0_0.toNat t.2.toNat t.1 ∧ 1 ≤ t.2 ∧ t.2 ≤ 8
  case neg => rw [if_neg hk] at H2; cases H2
  rw [if_pos hk, Option.some.injEq, Prod.mk.injEq] at H2
  obtain ⟨e1_, e2_⟩ := H2
  subst e2_
  obtain ⟨hn, _, hgn⟩ := l11.good_iff hg.1
  obtain ⟨m, hm⟩ : ∃ m : Nat, a0_0 = m := ⟨a0_0.toNat, by omega⟩
  subst hm
  obtain ⟨c, hc⟩ : ∃ c : Nat, t.2 = c := ⟨t.2.toNat, by omega⟩
  obtain ⟨W, hW⟩ : ∃ W, t.1 = W := ⟨_, rfl⟩
  rw [hc, hW, Int.toNat_natCast, Int.toNat_natCast] at hk e1_
  have HM : Aside0 (1 ≤ m ∧ m ≤ 8) := ⟨by omega⟩
  have HN1 := Aside0.mk hn
  have HGN := Aside0.mk hgn
  have HC8 : Aside0 (1 ≤ c ∧ c ≤ 8) := ⟨by omega⟩
  have HG := Aside0.mk hg.2
  have HOW := Aside0.mk hk.1
  have HTC := Aside0.mk hc
  have HTW := Aside0.mk hW
  have A2 := Aside0.mk A2_
  clear hg hk hn hgn hc hW A2_
  obtain ⟨FT, hFT⟩ : ∃ x, cr.runT l0_1 (cr.fill m) (List.replicate 64 0) = x := ⟨_, rfl⟩
  rw [hFT] at e1_
  have HFT := Aside0.mk hFT
  have HTB := Aside0.mk e1_
  clear hFT e1_
  have HRL : Aside0 (r1.length = c) := ⟨by rw [← HTB.out, cl.tab_len]⟩
  have HFL : Aside0 (FT.length = 64) := ⟨by rw [← HFT.out]; exact cr.runT_len _ _ _ (by simp)⟩
  go_enter Try.func41, Try.ntmps41
  go_wp2_with (first | ((with_reducible refine gate_dst (N := 1) rfl ?_); refine box_event ?hg (N := 1) ?hd (cs := #[.int .i64 (m : Int), .slice A0_1 l0_1.length c0_1]) (t := 26) ?hr ?_; (case hd => rfl); (case hg => rfl); (case hr => first | (go_simp; done) | (go_simp; rfl)); intro gb hg w1 hbox hb; have n_ := Aside0.mk (below_step (by repeat (first | (with_reducible first | exact HB.out | apply below_alloc | apply pw_below_drewN | apply below_drew1) | exact HB.out)) hb); clear HB; have HB := n_; clear n_; have HCB0 := Aside0.mk ((blk_cell hbox 0).trans rfl); have HCB1 := Aside0.mk ((blk_cell hbox 1).trans rfl); have HB2 := Aside0.mk (Below.refl w1.heap.size w1); have HRA := Aside0.mk (Kd.C_below HR0.out HB.out); clear hg hb; have hzgb_0 := (blk_cell hbox 0).trans rfl; have hzgb_1 := (blk_cell hbox 1).trans rfl; clear hbox) | ((with_reducible refine gate_callee (f := 44) rfl ?_); refine goesL_ (some 14) rfl rfl Try.func44 (by kernel_rfl) rfl #[.agg #[.int .i64 (m : Int), .slice A0_1 l0_1.length c0_1]] rfl (by (try simp only [List.map_toArray, List.map_cons, List.map_nil]); first | done | rfl) ?_; (with_reducible refine (spec_l01Is.calls k (m : Int) _ _ l0_1 _ _ ?side1 ?side2 A1.out).mono ?_); (case side1 => repeat (first | exact (Kd.C_below HRA.out HB2.out) | (with_reducible refine Kd.C_alloc ?_ _) | (with_reducible refine Kd.C_drewN ?_ _) | (with_reducible refine Kd.C_drew ?_))); (case side2 => exact HC0.out); rintro e wi ⟨rfl, hb⟩; refine ⟨_, rfl, ?_⟩; have n_ := Aside0.mk (below_step (by repeat (first | (with_reducible first | exact HB2.out | apply below_alloc | apply pw_below_drewN | apply below_drew1) | exact HB2.out)) hb); clear HB2; have HB2 := n_; clear n_; clear hb; (try clear hzgb_0 hzgb_1); have hzgb_0 := (HB2.out.cell (World.block_lt_of_cell? w1 _ HCB0.out)).trans HCB0.out; have hzgb_1 := (HB2.out.cell (World.block_lt_of_cell? w1 _ HCB1.out)).trans HCB1.out) | ((with_reducible refine gate_callee (f := 81) rfl ?_); refine goesL_ (some 21) rfl rfl Try.func81 (by kernel_rfl) rfl #[.int .i64 (m : Int), .slice A0_1 l0_1.length c0_1] rfl (by (try simp only [List.map_toArray, List.map_cons, List.map_nil]); first | done | rfl) ?_; (with_reducible refine (l11_calls k (m : Int) HN1.out _ _ l0_1 HGN.out t A2.out _ ?side1 ?side2).mono ?_); (case side1 => repeat (first | exact (Kd.C_below HRA.out HB2.out) | (with_reducible refine Kd.C_alloc ?_ _) | (with_reducible refine Kd.C_drewN ?_ _) | (with_reducible refine Kd.C_drew ?_))); (case side2 => exact HC0.out); rintro e wc ⟨_, rfl, hb⟩; rw [HTC.out, HTW.out]; refine ⟨_, rfl, ?_⟩; have n_ := Aside0.mk (below_step (by repeat (first | (with_reducible first | exact HB2.out | apply below_alloc | apply pw_below_drewN | apply below_drew1) | exact HB2.out)) hb); clear HB2; have HB2 := n_; clear n_; clear hb; (try clear hzgb_0 hzgb_1); have hzgb_0 := (HB2.out.cell (World.block_lt_of_cell? w1 _ HCB0.out)).trans HCB0.out; have hzgb_1 := (HB2.out.cell (World.block_lt_of_cell? w1 _ HCB1.out)).trans HCB1.out) | ((with_reducible refine gate_dst (N := 4) rfl ?_); refine box_event ?hg (N := 4) ?hd (cs := #[.int .i64 0, .int .i64 0, .int .i64 0, .int .i64 0, .int .i64 0, .int .i64 0, .int .i64 0, .int .i64 0]) (t := 59) ?hr ?_; (case hd => rfl); (case hg => rfl); (case hr => first | (go_simp; done) | (go_simp; rfl)); intro g4 hg w4 hbox hb; have GE4 : Aside0 (w1.heap.size ≤ g4) := ⟨by rw [hg]; exact below_size (by repeat (first | (with_reducible first | exact HB2.out | apply below_alloc | apply pw_below_drewN | apply below_drew1) | exact HB2.out))⟩; have n_ := Aside0.mk (below_step (by repeat (first | (with_reducible first | exact HB2.out | apply below_alloc | apply pw_below_drewN | apply below_drew1) | exact HB2.out)) hb); clear HB2; have HB2 := n_; clear n_; have AR4 : Aside0 (Ar (Value.int .i64) 59 w4 g4 (List.replicate 8 (0))) := ⟨hbox⟩; clear hbox hb hg; (try clear hzgb_0 hzgb_1); have hzgb_0 := (HB2.out.cell (World.block_lt_of_cell? w1 _ HCB0.out)).trans HCB0.out; have hzgb_1 := (HB2.out.cell (World.block_lt_of_cell? w1 _ HCB1.out)).trans HCB1.out) | ((with_reducible refine gate_store (t := 59) (p := 4) rfl ?_); refine ar_store (by rfl) 59 _ _ (by rfl) g4 ((((List.replicate 8 (0))).map (Value.int .i64))) (((W).map (Value.int .i64))) (by rfl) (by rfl) (by rfl) AR4.out (by simp [HOW.out.1]) (by rw [List.length_map, HOW.out.1]; kernel_rfl) (by intro v hv; obtain ⟨x, _, rfl⟩ := List.mem_map.1 hv; rfl) ?_; intro w5 hst hk hB_; have n_ := Aside0.mk (hB_ _ _ (by repeat (first | (with_reducible first | exact HB2.out | apply below_alloc | apply pw_below_drewN | apply below_drew1) | exact HB2.out)) GE4.out); clear HB2; have HB2 := n_; clear n_; clear AR4; have AR4 : Aside0 (Ar (Value.int .i64) 59 w5 g4 W) := ⟨hst⟩; clear hst hk hB_; (try clear hzgb_0 hzgb_1); have hzgb_0 := (HB2.out.cell (World.block_lt_of_cell? w1 _ HCB0.out)).trans HCB0.out; have hzgb_1 := (HB2.out.cell (World.block_lt_of_cell? w1 _ HCB1.out)).trans HCB1.out) | ((with_reducible refine gate_callee (f := 65) rfl ?_); refine goesL_ (some 28) rfl rfl Try.func65 (by kernel_rfl) rfl #[.int .i64 (m : Int), .slice A0_1 l0_1.length c0_1] rfl (by (try simp only [List.map_toArray, List.map_cons, List.map_nil]); first | done | rfl) ?_; (refine (cross_calls (m : Int) (by have := HM.out; omega) A0_1 c0_1 l0_1 HG.out _ ?side1 ?side2).mono ?_); (case side1 => repeat (first | exact (Kd.C_below HRA.out HB2.out) | (with_reducible refine Kd.C_alloc ?_ _) | (with_reducible refine Kd.C_drewN ?_ _) | (with_reducible refine Kd.C_drew ?_))); (case side2 => exact HC0.out); rintro e w6 ⟨rfl, hb⟩; rw [Int.toNat_natCast, HFT.out]; refine ⟨_, rfl, ?_⟩; have n4_ : Aside0 (Ar (Value.int .i64) 59 w6 g4 W) := ⟨ar_below (by (with_reducible repeat (first | refine ar_alloc ?_ _ | refine ar_drewN ?_ _ | refine ar_drew ?_)); exact AR4.out) hb⟩; clear AR4; have AR4 := n4_; clear n4_; have n_ := Aside0.mk (below_step (by repeat (first | (with_reducible first | exact HB2.out | apply below_alloc | apply pw_below_drewN | apply below_drew1) | exact HB2.out)) hb); clear HB2; have HB2 := n_; clear n_; clear hb) | ((with_reducible refine gate_dst (N := 29) rfl ?_); refine Kd.S_lit (Kd.slice 2 (Kd.int .i64)) _ 22 ?hg (N := 29) ?hd (xs := ([] : List (List Int))) (inner := []) (ok := fun _ => True) (okp := fun _ => True) ?hr ?hp (fun _ hk => hk) trivial (Below.refl _ _) (Nat.le_refl _) (by simp) ?_; (case hd => rfl); (case hg => rfl); (case hr => first | (go_simp; done) | (go_simp; rfl)); (case hp => exact (Reps.none _ _)); intro v29 w7 ho3 hb hg_ hnew_; clear hg_ hnew_; have SL := Aside0.mk (Kd.S_lower ho3 (below_size (by repeat (first | (with_reducible first | exact HB2.out | apply below_alloc | apply pw_below_drewN | apply below_drew1) | exact HB2.out)))); have n_ := Aside0.mk (below_step (by repeat (first | (with_reducible first | exact HB2.out | apply below_alloc | apply pw_below_drewN | apply below_drew1) | exact HB2.out)) hb); clear HB2; have HB2 := n_; clear n_; have n4_ : Aside0 (Ar (Value.int .i64) 59 w7 g4 W) := ⟨ar_below (by (with_reducible repeat (first | refine ar_alloc ?_ _ | refine ar_drewN ?_ _ | refine ar_drew ?_)); exact AR4.out) hb⟩; clear AR4; have AR4 := n4_; clear n4_; clear hb ho3) | ((with_reducible refine gate_dst (N := 6) rfl ?_); refine box_event ?hg (N := 6) ?hd (cs := #[.int .i64 0, .int .i64 0, .int .i64 0, .int .i64 0, .int .i64 0, .int .i64 0, .int .i64 0, .int .i64 0, .int .i64 0, .int .i64 0, .int .i64 0, .int .i64 0, .int .i64 0, .int .i64 0, .int .i64 0, .int .i64 0, .int .i64 0, .int .i64 0, .int .i64 0, .int .i64 0, .int .i64 0, .int .i64 0, .int .i64 0, .int .i64 0, .int .i64 0, .int .i64 0, .int .i64 0, .int .i64 0, .int .i64 0, .int .i64 0, .int .i64 0, .int .i64 0, .int .i64 0, .int .i64 0, .int .i64 0, .int .i64 0, .int .i64 0, .int .i64 0, .int .i64 0, .int .i64 0, .int .i64 0, .int .i64 0, .int .i64 0, .int .i64 0, .int .i64 0, .int .i64 0, .int .i64 0, .int .i64 0, .int .i64 0, .int .i64 0, .int .i64 0, .int .i64 0, .int .i64 0, .int .i64 0, .int .i64 0, .int .i64 0, .int .i64 0, .int .i64 0, .int .i64 0, .int .i64 0, .int .i64 0, .int .i64 0, .int .i64 0, .int .i64 0]) (t := 60) ?hr ?_; (case hd => rfl); (case hg => rfl); (case hr => first | (go_simp; done) | (go_simp; rfl)); intro g6 hg w8 hbox hb; have GE6 : Aside0 (w1.heap.size ≤ g6) := ⟨by rw [hg]; exact below_size (by repeat (first | (with_reducible first | exact HB2.out | apply below_alloc | apply pw_below_drewN | apply below_drew1) | exact HB2.out))⟩; have NE46 : Aside0 (g4 ≠ g6) := ⟨by have h_ := ar_lt (by (with_reducible repeat (first | refine ar_alloc ?_ _ | refine ar_drewN ?_ _ | refine ar_drew ?_)); exact AR4.out); intro h3_; rw [h3_, hg] at h_; exact Nat.lt_irrefl _ h_⟩; have n_ := Aside0.mk (Kd.S_below (Kd.S_mono (ok' := fun k_ => k_ ≠ g6) (Kd.S_bound (by (with_reducible repeat (first | apply Kd.S_alloc | apply Kd.S_drewN | apply Kd.S_drew)); exact SL.out)) (fun k_ hk_ => by rw [hg]; exact Nat.ne_of_lt hk_.2.2.1)) hb); clear SL; have SL := n_; clear n_; have n4_ : Aside0 (Ar (Value.int .i64) 59 w8 g4 W) := ⟨ar_below (by (with_reducible repeat (first | refine ar_alloc ?_ _ | refine ar_drewN ?_ _ | refine ar_drew ?_)); exact AR4.out) hb⟩; clear AR4; have AR4 := n4_; clear n4_; have n_ := Aside0.mk (below_step (by repeat (first | (with_reducible first | exact HB2.out | apply below_alloc | apply pw_below_drewN | apply below_drew1) | exact HB2.out)) hb); clear HB2; have HB2 := n_; clear n_; have AR6 : Aside0 (Ar (Value.int .i64) 60 w8 g6 (List.replicate 64 (0))) := ⟨hbox⟩; clear hbox hb hg) | ((with_reducible refine gate_store (t := 60) (p := 6) rfl ?_); refine ar_store (by rfl) 60 _ _ (by rfl) g6 ((((List.replicate 64 (0))).map (Value.int .i64))) (((FT).map (Value.int .i64))) (by rfl) (by rfl) (by rfl) AR6.out (by simp [HFL.out]) (by rw [List.length_map, HFL.out]; kernel_rfl) (by intro v hv; obtain ⟨x, _, rfl⟩ := List.mem_map.1 hv; rfl) ?_; intro w9 hst hk hB_; have n_ := Aside0.mk (hB_ _ _ (by repeat (first | (with_reducible first | exact HB2.out | apply below_alloc | apply pw_below_drewN | apply below_drew1) | exact HB2.out)) GE6.out); clear HB2; have HB2 := n_; clear n_; clear AR6; have AR6 : Aside0 (Ar (Value.int .i64) 60 w9 g6 FT) := ⟨hst⟩; have n_ := Aside0.mk (Kd.S_mono (ok' := fun _ => True) (Kd.S_kept (ok := fun k_ => k_ ≠ g6) (by (with_reducible repeat (first | apply Kd.S_alloc | apply Kd.S_drewN | apply Kd.S_drew)); exact SL.out) hk (fun k_ h_ hs_ => h_ hs_)) (fun _ _ => trivial)); clear SL; have SL := n_; clear n_; have n4_ : Aside0 (Ar (Value.int .i64) 59 w9 g4 W) := ⟨ar_kept (by (with_reducible repeat (first | refine ar_alloc ?_ _ | refine ar_drewN ?_ _ | refine ar_drew ?_)); exact AR4.out) hk (fun h_ => NE46.out h_)⟩; clear AR4; have AR4 := n4_; clear n4_; clear hst hk hB_))
  (try clear hzgb_0 hzgb_1)
  clear HRA
  go_loopg [7, 8] 30 (fun kq vo vk wr => ∃ (kk : Int) (q : Nat), vk = .int .i64 kk ∧ Aside0 (q < kq) ∧ Aside0 ((q : Int) + kk = (c : Int) ∧ 0 ≤ kk) ∧ Aside0 (Mx 2 22 wr w1.heap.size (fun _ => True) vo (r1.take kk.toNat)) ∧ Aside0 (Ar (Value.int .i64) 59 wr g4 W) ∧ Aside0 (Ar (Value.int .i64) 60 wr g6 FT) ∧ Aside0 (Below w1.heap.size w1 wr))
  case atStart => exact ⟨0, c, (by first | rfl | (simp; done) | (simp [*]; done)), ⟨by have := HC8.out; omega⟩, ⟨by omega⟩, ⟨(by (with_reducible repeat (first | apply Kd.S_alloc | apply Kd.S_drewN | apply Kd.S_drew)); exact SL.out)⟩, ⟨(by (with_reducible repeat (first | refine ar_alloc ?_ _ | refine ar_drewN ?_ _ | refine ar_drew ?_)); exact AR4.out)⟩, ⟨(by (with_reducible repeat (first | refine ar_alloc ?_ _ | refine ar_drewN ?_ _ | refine ar_drew ?_)); exact AR6.out)⟩, ⟨(by repeat (first | (with_reducible first | exact HB2.out | apply below_alloc | apply pw_below_drewN | apply below_drew1) | exact HB2.out))⟩⟩
  case round =>
   clear SL HB2 AR4 AR6
   obtain ⟨kk, q, rfl, HQ, HX, SL, AR4, AR6, HB2⟩ := hrel
   obtain ⟨wq, rfl⟩ : ∃ x, x = wr := ⟨_, rfl⟩
   cases gk with
   | zero => exact absurd HQ.out (Nat.not_lt_zero _)
   | succ k1 =>
   cases q with
   | zero =>
    have cxb : decide (kk < (c : Int)) = false := decide_eq_false (by have := HX.out; omega)
    have n_ : Aside0 (Mx 2 22 wq w.heap.size (fun _ => True) u7 r1) := ⟨by have h_ := SL.out; rw [List.take_of_length_le (by rw [HRL.out]; have := HX.out; omega)] at h_; exact Kd.S_lower h_ (below_size HB.out)⟩
    clear SL
    have SL := n_
    clear n_
    have HBF := Aside0.mk (below_step HB.out HB2.out)
    clear HB
    have HB := HBF
    clear HBF
    go_wp2
    go_ret2
    exact ⟨_, rfl, (by (with_reducible repeat (first | apply Kd.S_alloc | apply Kd.S_drewN | apply Kd.S_drew)); exact SL.out), (by repeat (first | (with_reducible first | exact HB.out | apply below_alloc | apply pw_below_drewN | apply below_drew1) | exact HB.out))⟩
   | succ q =>
    have hx0 : 0 ≤ kk := HX.out.2
    have hx1 : kk < (c : Int) := by have := HX.out; omega
    have cxb : decide (kk < (c : Int)) = true := decide_eq_true hx1
    have HX0 := Aside0.mk hx0
    have HX1 := Aside0.mk hx1
    clear hx0 hx1
    have HB3 := Aside0.mk (Below.refl wq.heap.size wq)
    obtain ⟨RX, hRX⟩ : ∃ z, cl.x1 FT W kk m m 0 (List.replicate c 0) = z := ⟨_, rfl⟩
    have HRX := Aside0.mk hRX
    have HRX0 := Aside0.mk hRX
    have HXL : Aside0 (RX.length = c) := ⟨by rw [← hRX, cl.x1_len, List.length_replicate]⟩
    clear hRX
    go_wp2_with (first | ((with_reducible refine gate_dst (N := 36) rfl ?_); refine Kd.R_make (Kd.int .i64) _ 2 rfl (N := 36) rfl 22 _ _ rfl (c : Int) rfl rfl Try.underlying22 (.int .i64 0) 8 infoInt rfl (by decide) (by omega) 0 (ok := fun _ => True) (okp := fun _ => True) rfl (fun _ hk => hk) trivial (by have := HC8.out; omega) (by have := HC8.out; omega) (Below.refl _ _) (Nat.le_refl _) ?_; intro vU w3 ho hb hg_ hnew_; clear hg_ hnew_; rw [Int.toNat_natCast] at ho; obtain ⟨gU, cU, eU, _, _, _, _⟩ := Kd.R_form ho (by rw [List.length_replicate]; have := HC8.out; omega); rw [List.length_replicate] at eU; subst eU; have RU := Aside0.mk (Kd.R_lower ho (below_size (by repeat (first | (with_reducible first | exact HB3.out | apply below_alloc | apply pw_below_drewN | apply below_drew1) | exact HB3.out)))); have GU := Aside0.mk (Kd.R_base RU.out gU rfl); have n_ := Aside0.mk (below_step (by repeat (first | (with_reducible first | exact HB3.out | apply below_alloc | apply pw_below_drewN | apply below_drew1) | exact HB3.out)) hb); clear HB3; have HB3 := n_; clear n_; clear hb ho))
    go_loopg [10] 30 (fun kq vx wr => ∃ (x : Int) (s : Nat) (row : List Int), vx = .int .i64 x ∧ Aside0 (s < kq) ∧ Aside0 ((s : Int) + x = (m : Int) ∧ 0 ≤ x) ∧ Aside0 (cl.x1 FT W kk m s x row = RX) ∧ Aside0 (row.length = c) ∧ Aside0 (Kd.R (Kd.int .i64) 2 wr wq.heap.size (fun _ => True) (.slice (some ⟨gU, 0, none⟩) c cU) row) ∧ Aside0 (Below wq.heap.size wq wr))
    case atStart => exact ⟨0, m, List.replicate c 0, (by first | rfl | (simp; done) | (simp [*]; done)), ⟨by have := HM.out; omega⟩, ⟨by omega⟩, HRX, ⟨by simp⟩, ⟨(by (with_reducible repeat (first | apply Kd.R_alloc | apply Kd.R_drewN | apply Kd.R_drew)); exact RU.out)⟩, ⟨(by repeat (first | (with_reducible first | exact HB3.out | apply below_alloc | apply pw_below_drewN | apply below_drew1) | exact HB3.out))⟩⟩
    case round =>
     clear RU HB3 HRX
     obtain ⟨x, s, row, rfl, HQ2, HY, HA, HLR, RU, HB3⟩ := hrel
     (try clear hzgb_0)
     have HB5 := below_step HB2.out HB3.out
     have hzgb_0 := (HB5.cell (World.block_lt_of_cell? w1 _ HCB0.out)).trans HCB0.out
     clear HB5
     cases gk with
     | zero => exact absurd HQ2.out (Nat.not_lt_zero _)
     | succ k2 =>
     cases s with
     | succ s =>
      have hy0 : 0 ≤ x := HY.out.2
      have hy1 : x < (m : Int) := by have := HY.out; omega
      have cyb : decide (x < (m : Int)) = true := decide_eq_true hy1
      have ppx : (0 ≤ x) = True := eq_true hy0
      have qqx : (x < 8) = True := eq_true (by have := HM.out; omega)
      have HX2 := Aside0.mk hy0
      have HX3 := Aside0.mk hy1
      clear hy0 hy1
      have HWX := Aside0.mk (show wrap64 (x + 1) = x + 1 by have := HX2.out; have := HX3.out; have := HM.out; unfold wrap64; omega)
      have HA := HA.out
      unfold cl.x1 at HA
      have hp0 : (0 < (m : Int)) = True := eq_true (by have := HM.out; omega)
      have hp1 : decide (0 < (m : Int)) = true := decide_eq_true (by have := HM.out; omega)
      have hp2 : (0 < m) = True := eq_true (by have := HM.out; omega)
      have hp3 : decide (0 < m) = true := decide_eq_true (by have := HM.out; omega)
      obtain ⟨hzx, _⟩ := ar_rd 0 (ar_below AR4.out HB3.out) x 8 HOW.out.1 HX2.out (by have := HX3.out; have := HM.out; omega)
      obtain ⟨wx, hwx⟩ : ∃ v, rd W x = v := ⟨_, rfl⟩
      replace hzx : wr.cell? ⟨g4, x.toNat, none⟩ = some (.int .i64 wx) := by rw [← hwx]; exact hzx
      rw [hwx] at HA
      have HWXE := Aside0.mk hwx
      clear hwx
      by_cases e1 : wx = kk
      case neg =>
       rw [if_neg e1] at HA
       have HA := Aside0.mk HA
       have c4b : (wx == kk) = false := beq_eq_false_iff_ne.mpr e1
       have NE1 := Aside0.mk e1
       clear e1
       go_wp2
       go_loopg [11] 30 (fun kq vy wr => vy = .int .i64 0 ∧ Aside0 (0 < kq) ∧ Aside0 (Kd.R (Kd.int .i64) 2 wr wq.heap.size (fun _ => True) (.slice (some ⟨gU, 0, none⟩) c cU) row) ∧ Aside0 (Below wq.heap.size wq wr))
       case atStart => exact ⟨(by first | rfl | (simp; done) | (simp [*]; done)), ⟨by omega⟩, ⟨(by (with_reducible repeat (first | apply Kd.R_alloc | apply Kd.R_drewN | apply Kd.R_drew)); exact RU.out)⟩, ⟨(by repeat (first | (with_reducible first | exact HB3.out | apply below_alloc | apply pw_below_drewN | apply below_drew1) | exact HB3.out))⟩⟩
       case round =>
        clear RU HB3 hzx
        obtain ⟨rfl, HQ3, RU, HB3⟩ := hrel
        (try clear hzgb_0)
        have HB5 := below_step HB2.out HB3.out
        have hzgb_0 := (HB5.cell (World.block_lt_of_cell? w1 _ HCB0.out)).trans HCB0.out
        clear HB5
        obtain ⟨hzx, _⟩ := ar_rd 0 (ar_below AR4.out HB3.out) x 8 HOW.out.1 HX2.out (by have := HX3.out; have := HM.out; omega)
        replace hzx : wr.cell? ⟨g4, x.toNat, none⟩ = some (.int .i64 wx) := by rw [← HWXE.out]; exact hzx
        go_wp2
        go_roundg k2
        case measure => omega
        case rel => exact ⟨wrap64 (x + 1), s, row, (by first | rfl | (simp; done) | (simp [*]; done)), ⟨by have := HQ2.out; omega⟩, ⟨by have := HY.out; rw [HWX.out]; omega⟩, ⟨by rw [HWX.out]; exact HA.out⟩, HLR, ⟨(by (with_reducible repeat (first | apply Kd.R_alloc | apply Kd.R_drewN | apply Kd.R_drew)); exact RU.out)⟩, ⟨(by repeat (first | (with_reducible first | exact HB3.out | apply below_alloc | apply pw_below_drewN | apply below_drew1) | exact HB3.out))⟩⟩
      rw [if_pos e1] at HA
      subst e1
      obtain ⟨RY, hRY⟩ : ∃ z, cl.y1 FT W x m 0 row = z := ⟨_, rfl⟩
      rw [hRY] at HA
      have HRY := Aside0.mk hRY
      have HA := Aside0.mk HA
      clear hRY
      have c4b : (wx == wx) = true := beq_self_eq_true wx
      go_wp2
      go_loopg [11] 30 (fun kq vy wr => ∃ (y : Int) (u : Nat) (ro : List Int), vy = .int .i64 y ∧ Aside0 (u < kq) ∧ Aside0 ((u : Int) + y = (m : Int) ∧ 0 ≤ y) ∧ Aside0 (cl.y1 FT W x u y ro = RY) ∧ Aside0 (ro.length = c) ∧ Aside0 (Kd.R (Kd.int .i64) 2 wr wq.heap.size (fun _ => True) (.slice (some ⟨gU, 0, none⟩) c cU) ro) ∧ Aside0 (Below wq.heap.size wq wr))
      case atStart => exact ⟨0, m, row, (by first | rfl | (simp; done) | (simp [*]; done)), ⟨by have := HM.out; omega⟩, ⟨by omega⟩, HRY, HLR, ⟨(by (with_reducible repeat (first | apply Kd.R_alloc | apply Kd.R_drewN | apply Kd.R_drew)); exact RU.out)⟩, ⟨(by repeat (first | (with_reducible first | exact HB3.out | apply below_alloc | apply pw_below_drewN | apply below_drew1) | exact HB3.out))⟩⟩
      case round =>
       clear RU HB3 HRY hzx HLR hp0 hp1 hp2 hp3
       obtain ⟨y, u, ro, rfl, HQ3, HZ, HE, HLR, RU, HB3⟩ := hrel
       (try clear hzgb_0)
       have HB5 := below_step HB2.out HB3.out
       have hzgb_0 := (HB5.cell (World.block_lt_of_cell? w1 _ HCB0.out)).trans HCB0.out
       clear HB5
       obtain ⟨hzx, _⟩ := ar_rd 0 (ar_below AR4.out HB3.out) x 8 HOW.out.1 HX2.out (by have := HX3.out; have := HM.out; omega)
       replace hzx : wr.cell? ⟨g4, x.toNat, none⟩ = some (.int .i64 wx) := by rw [← HWXE.out]; exact hzx
       cases gk with
       | zero => exact absurd HQ3.out (Nat.not_lt_zero _)
       | succ k3 =>
       cases u with
       | zero =>
        have czb : decide (y < (m : Int)) = false := decide_eq_false (by have := HZ.out; omega)
        have e_ := HE.out
        simp only [cl.y1] at e_
        subst e_
        go_wp2
        go_roundg k2
        case measure => omega
        case rel => exact ⟨wrap64 (x + 1), s, ro, (by first | rfl | (simp; done) | (simp [*]; done)), ⟨by have := HQ2.out; omega⟩, ⟨by have := HY.out; rw [HWX.out]; omega⟩, ⟨by rw [HWX.out]; exact HA.out⟩, HLR, ⟨(by (with_reducible repeat (first | apply Kd.R_alloc | apply Kd.R_drewN | apply Kd.R_drew)); exact RU.out)⟩, ⟨(by repeat (first | (with_reducible first | exact HB3.out | apply below_alloc | apply pw_below_drewN | apply below_drew1) | exact HB3.out))⟩⟩
       | succ u =>
        have hz0 : 0 ≤ y := HZ.out.2
        have hz1 : y < (m : Int) := by have := HZ.out; omega
        have czb : decide (y < (m : Int)) = true := decide_eq_true hz1
        have ppy : (0 ≤ y) = True := eq_true hz0
        have qqy : (y < 8) = True := eq_true (by have := HM.out; omega)
        have HY0 := Aside0.mk hz0
        have HY1 := Aside0.mk hz1
        have hwy := HOW.out.at_ y hz0 hz1
        obtain ⟨wy, hwyE⟩ : ∃ v, rd W y = v := ⟨_, rfl⟩
        rw [hwyE] at hwy
        have ppw : (0 ≤ wy) = True := eq_true hwy.1
        have qqw : (wy < (c : Int)) = True := eq_true hwy.2
        have HWY := Aside0.mk hwy
        have HWYE := Aside0.mk hwyE
        clear hz0 hz1 hwy hwyE
        have HE := HE.out
        unfold cl.y1 at HE
        rw [HWYE.out] at HE
        try go_wp2
        (first | (rw [drewN_self wr]; generalize hq_ : World.drewN wr _ = w12) | (rw [drew_self wr]; generalize hq1_ : World.drew wr = w12; have hq_ : World.drewN wr 1 = w12 := hq1_; clear hq1_) | (rw [show wr = World.drewN wr 0 from rfl]; generalize hq_ : World.drewN wr 0 = w12))
        have n_ := Aside0.mk (Kd.R_at hq_ RU.out); clear RU; have RU := n_; clear n_
        have n_ := Aside0.mk (ar_below_at hq_ HB3.out); clear HB3; have HB3 := n_; clear n_
        clear hq_
        have n_ := Aside0.mk (Kd.R_drew RU.out); clear RU; have RU := n_; clear n_
        have n_ := Aside0.mk (below_drew1 HB3.out); clear HB3; have HB3 := n_; clear n_
        clear hzx hzgb_0
        obtain ⟨hzy, _⟩ := ar_rd 0 (ar_below AR4.out HB3.out) y 8 HOW.out.1 HY0.out (by have := HY1.out; have := HM.out; omega)
        replace hzy : (World.drew w12).cell? ⟨g4, y.toNat, none⟩ = some (.int .i64 wy) := by rw [← HWYE.out]; exact hzy
        obtain ⟨hzt, _⟩ := ar_rdN 0 (ar_below AR6.out HB3.out) (x.toNat * 8 + y.toNat) (by rw [HFL.out]; have := HX2.out; have := HX3.out; have := HY0.out; have := HY1.out; have := HM.out; omega)
        obtain ⟨tv, htv⟩ : ∃ v, FT.getD (x.toNat * 8 + y.toNat) 0 = v := ⟨_, rfl⟩
        rw [htv] at hzt HE
        clear htv
        have HE := Aside0.mk HE
        obtain ⟨hzr, hfr⟩ := Kd.R_celln 0 RU.out wy HWY.out.1 HWY.out.2
        have HPU := Aside0.mk (Kd.R_putn RU.out wy (wrap64 (rd ro wy + tv)))
        refine start_ (n := 18) (S := fun w' => w'.cell? ⟨g4, y.toNat, none⟩ = some (.int .i64 wy) ∧ w'.cell? ⟨gU, wy.toNat, none⟩ = some (.int .i64 (rd ro wy)) ∧ w'.frozen? ⟨gU, wy.toNat, none⟩ = false ∧ w'.cell? ⟨g6, x.toNat * 8 + y.toNat, none⟩ = some (.int .i64 tv)) (ds := [17]) #[false, false, false, false, false, false, false, false, false, false, false, false, false, false, false, false, false, false] (by kernel_rfl) rfl rfl ⟨hzy, hzr, hfr, hzt⟩ (fun hHeld => ?_)
        refine with_tabW spec_ComponentLinkings.tab15 spec_ComponentLinkings.bits15 (fun HT_ HW_ => ?_)
        generalize w12.drew = w13 at RU HB3 HPU hzy hzr hfr hzt hHeld ⊢
        refine pure_ (i := 0) (N := some 56) (v := ?_) (a' := ?_) #[true, false, false, false, false, false, false, false, false, false, false, false, false, false, false, false, false, false] rfl rfl (any_of HT_.out (by kernel_rfl)) (fun _ _ _ h => h) (Or.inl ⟨by rfl, ?_⟩) ?_ ?_
        rotate_left
        ·intro w'
         go_simp
         with_reducible rfl
        rotate_left
        ·simp only [Act.put, List.setIfInBounds_toArray, List.set_cons_zero, List.set_cons_succ, i64_w, i32_w]
         rfl
        refine pure_ (i := 1) (N := some 57) (v := ?_) (a' := ?_) #[true, true, false, false, false, false, false, false, false, false, false, false, false, false, false, false, false, false] rfl rfl (any_of HT_.out (by kernel_rfl)) (fun _ _ _ h => h) (Or.inl ⟨by rfl, ?_⟩) ?_ ?_
        rotate_left
        ·intro w'
         go_simp
         with_reducible rfl
        rotate_left
        ·simp only [Act.put, List.setIfInBounds_toArray, List.set_cons_zero, List.set_cons_succ, i64_w, i32_w]
         rfl
        refine pure_ (i := 2) (N := some 58) (v := ?_) (a' := ?_) #[true, true, true, false, false, false, false, false, false, false, false, false, false, false, false, false, false, false] rfl rfl (any_of HT_.out (by kernel_rfl)) (fun _ _ _ h => h) (Or.inl ⟨by rfl, ?_⟩) ?_ ?_
        rotate_left
        ·intro w'
         go_simp
         with_reducible rfl
        rotate_left
        ·simp only [Act.put, List.setIfInBounds_toArray, List.set_cons_zero, List.set_cons_succ, i64_w, i32_w]
         rfl
        refine pure_ (i := 4) (N := some 60) (v := ?_) (a' := ?_) #[true, true, true, false, true, false, false, false, false, false, false, false, false, false, false, false, false, false] rfl rfl (any_of HT_.out (by kernel_rfl)) (fun _ _ _ h => h) (Or.inl ⟨by rfl, ?_⟩) ?_ ?_
        rotate_left
        ·intro w'
         go_simp
         with_reducible rfl
        rotate_left
        ·simp only [Act.put, List.setIfInBounds_toArray, List.set_cons_zero, List.set_cons_succ, i64_w, i32_w]
         rfl
        refine pure_ (i := 5) (N := some 61) (v := ?_) (a' := ?_) #[true, true, true, false, true, true, false, false, false, false, false, false, false, false, false, false, false, false] rfl rfl (any_of HT_.out (by kernel_rfl)) (fun _ _ _ h => h) (Or.inl ⟨by rfl, ?_⟩) ?_ ?_
        rotate_left
        ·intro w'
         go_simp
         with_reducible rfl
        rotate_left
        ·simp only [Act.put, List.setIfInBounds_toArray, List.set_cons_zero, List.set_cons_succ, i64_w, i32_w]
         rfl
        refine pure_ (i := 6) (N := some 62) (v := ?_) (a' := ?_) #[true, true, true, false, true, true, true, false, false, false, false, false, false, false, false, false, false, false] rfl rfl (any_of HT_.out (by kernel_rfl)) (fun _ _ _ h => h) (Or.inl ⟨by rfl, ?_⟩) ?_ ?_
        rotate_left
        ·intro w'
         go_simp
         with_reducible rfl
        rotate_left
        ·simp only [Act.put, List.setIfInBounds_toArray, List.set_cons_zero, List.set_cons_succ, i64_w, i32_w]
         rfl
        refine pure_ (i := 10) (N := some 66) (v := ?_) (a' := ?_) #[true, true, true, false, true, true, true, false, false, false, true, false, false, false, false, false, false, false] rfl rfl (any_of HT_.out (by kernel_rfl)) (fun _ _ _ h => h) (Or.inl ⟨by rfl, ?_⟩) ?_ ?_
        rotate_left
        ·intro w'
         go_simp
         with_reducible rfl
        rotate_left
        ·simp only [Act.put, List.setIfInBounds_toArray, List.set_cons_zero, List.set_cons_succ, i64_w, i32_w]
         rfl
        refine pure_ (i := 11) (N := some 67) (v := ?_) (a' := ?_) #[true, true, true, false, true, true, true, false, false, false, true, true, false, false, false, false, false, false] rfl rfl (any_of HT_.out (by kernel_rfl)) (fun _ _ _ h => h) (Or.inl ⟨by rfl, ?_⟩) ?_ ?_
        rotate_left
        ·intro w'
         go_simp
         with_reducible rfl
        rotate_left
        ·simp only [Act.put, List.setIfInBounds_toArray, List.set_cons_zero, List.set_cons_succ, i64_w, i32_w]
         rfl
        refine pure_ (i := 12) (N := some 68) (v := ?_) (a' := ?_) #[true, true, true, false, true, true, true, false, false, false, true, true, true, false, false, false, false, false] rfl rfl (any_of HT_.out (by kernel_rfl)) (fun _ _ _ h => h) (Or.inl ⟨by rfl, ?_⟩) ?_ ?_
        rotate_left
        ·intro w'
         go_simp
         with_reducible rfl
        rotate_left
        ·simp only [Act.put, List.setIfInBounds_toArray, List.set_cons_zero, List.set_cons_succ, i64_w, i32_w]
         rfl
        refine pure_ (i := 13) (N := some 69) (v := ?_) (a' := ?_) #[true, true, true, false, true, true, true, false, false, false, true, true, true, true, false, false, false, false] rfl rfl (any_of HT_.out (by kernel_rfl)) (fun _ _ _ h => h) (Or.inl ⟨by rfl, ?_⟩) ?_ ?_
        rotate_left
        ·intro w'
         go_simp
         with_reducible rfl
        rotate_left
        ·simp only [Act.put, List.setIfInBounds_toArray, List.set_cons_zero, List.set_cons_succ, i64_w, i32_w]
         rfl
        refine take_ (i := 3) (N := some 59) (v := ?_) (a' := ?_) #[true, true, true, true, true, true, true, false, false, false, true, true, true, true, false, false, false, false] rfl rfl (take_ofW HT_.out HW_.out (by kernel_rfl)) (fun _ _ _ h => h) (Or.inl ⟨by rfl, ?_⟩) hHeld ?_ ?_
        rotate_left
        ·rintro w' ⟨s0, s1, s2, s3⟩
         go_simp
         with_reducible rfl
        rotate_left
        ·simp only [Act.put, List.setIfInBounds_toArray, List.set_cons_zero, List.set_cons_succ, i64_w, i32_w]
         rfl
        refine take_ (i := 7) (N := some 63) (v := ?_) (a' := ?_) #[true, true, true, true, true, true, true, true, false, false, true, true, true, true, false, false, false, false] rfl rfl (take_ofW HT_.out HW_.out (by kernel_rfl)) (fun _ _ _ h => h) (Or.inl ⟨by rfl, ?_⟩) hHeld ?_ ?_
        rotate_left
        ·rintro w' ⟨s0, s1, s2, s3⟩
         go_simp
         with_reducible rfl
        rotate_left
        ·simp only [Act.put, List.setIfInBounds_toArray, List.set_cons_zero, List.set_cons_succ, i64_w, i32_w]
         rfl
        refine pure_ (i := 8) (N := some 64) (v := ?_) (a' := ?_) #[true, true, true, true, true, true, true, true, true, false, true, true, true, true, false, false, false, false] rfl rfl (any_of HT_.out (by kernel_rfl)) (fun _ _ _ h => h) (Or.inl ⟨by rfl, ?_⟩) ?_ ?_
        rotate_left
        ·intro w'
         go_simp
         with_reducible rfl
        rotate_left
        ·simp only [Act.put, List.setIfInBounds_toArray, List.set_cons_zero, List.set_cons_succ, i64_w, i32_w]
         rfl
        refine take_ (i := 9) (N := some 65) (v := ?_) (a' := ?_) #[true, true, true, true, true, true, true, true, true, true, true, true, true, true, false, false, false, false] rfl rfl (take_ofW HT_.out HW_.out (by kernel_rfl)) (fun _ _ _ h => h) (Or.inl ⟨by rfl, ?_⟩) hHeld ?_ ?_
        rotate_left
        ·rintro w' ⟨s0, s1, s2, s3⟩
         go_simp
         with_reducible rfl
        rotate_left
        ·simp only [Act.put, List.setIfInBounds_toArray, List.set_cons_zero, List.set_cons_succ, i64_w, i32_w]
         rfl
        refine take_ (i := 14) (N := some 70) (v := ?_) (a' := ?_) #[true, true, true, true, true, true, true, true, true, true, true, true, true, true, true, false, false, false] rfl rfl (take_ofW HT_.out HW_.out (by kernel_rfl)) (fun _ _ _ h => h) (Or.inl ⟨by rfl, ?_⟩) hHeld ?_ ?_
        rotate_left
        ·rintro w' ⟨s0, s1, s2, s3⟩
         go_simp
         with_reducible rfl
        rotate_left
        ·simp only [Act.put, List.setIfInBounds_toArray, List.set_cons_zero, List.set_cons_succ, i64_w, i32_w]
         rfl
        refine pure_ (i := 15) (N := some 71) (v := ?_) (a' := ?_) #[true, true, true, true, true, true, true, true, true, true, true, true, true, true, true, true, false, false] rfl rfl (any_of HT_.out (by kernel_rfl)) (fun _ _ _ h => h) (Or.inl ⟨by rfl, ?_⟩) ?_ ?_
        rotate_left
        ·intro w'
         go_simp
         with_reducible rfl
        rotate_left
        ·simp only [Act.put, List.setIfInBounds_toArray, List.set_cons_zero, List.set_cons_succ, i64_w, i32_w]
         rfl
        refine pure_ (i := 16) (N := some 72) (v := ?_) (a' := ?_) #[true, true, true, true, true, true, true, true, true, true, true, true, true, true, true, true, true, false] rfl rfl (any_of HT_.out (by kernel_rfl)) (fun _ _ _ h => h) (Or.inl ⟨by rfl, ?_⟩) ?_ ?_
        rotate_left
        ·intro w'
         go_simp
         with_reducible rfl
        rotate_left
        ·simp only [Act.put, List.setIfInBounds_toArray, List.set_cons_zero, List.set_cons_succ, i64_w, i32_w]
         rfl
        refine last_ (i := 17) (N := none) #[true, true, true, true, true, true, true, true, true, true, true, true, true, true, true, true, true, true] rfl rfl (one_of HT_.out (by kernel_rfl)) (by decide) (fun K hK => ?_)
        refine skip_ (w1 := ?_) (by rfl) rfl ?_ ?_
        rotate_left
        ·first | (go_simp; done) | (go_simp; rfl)
        refine hK.out _ _ ?_
        clear hK K
        refine done_ (done_of HT_.out (by kernel_rfl)) ?_
        have n0_ : Aside0 (Kd.R (Kd.int .i64) 2 (World.setCell w13 ⟨gU, wy.toNat, none⟩ (.int .i64 (wrap64 (rd ro wy + tv)))) wq.heap.size (fun _ => True) (.slice (some ⟨gU, 0, none⟩) c cU) (ro.set wy.toNat (wrap64 (rd ro wy + tv)))) := ⟨HPU.out⟩
        have n1_ : Aside0 (Below wq.heap.size wq (World.setCell w13 ⟨gU, wy.toNat, none⟩ (.int .i64 (wrap64 (rd ro wy + tv))))) := ⟨below_set HB3.out GU.out⟩
        have n2_ : Aside0 ((ro.set wy.toNat (wrap64 (rd ro wy + tv))).length = c) := ⟨by rw [List.length_set]; exact HLR.out⟩
        clear RU HB3 HPU HLR hzy hzr hfr hzt hHeld HT_ HW_
        generalize (World.setCell w13 ⟨gU, wy.toNat, none⟩ (.int .i64 (wrap64 (rd ro wy + tv)))) = w14 at n0_ n1_ ⊢
        have RU := n0_
        have HB3 := n1_
        have HLR := n2_
        clear n0_ n1_ n2_
        try go_wp2
        go_roundg k3
        case measure => omega
        case rel =>
         have HW := Aside0.mk (show wrap64 (y + 1) = y + 1 by have := HY0.out; have := HY1.out; have := HM.out; unfold wrap64; omega)
         exact ⟨wrap64 (y + 1), u, _, (by first | rfl | (simp; done) | (simp [*]; done)), ⟨by have := HQ3.out; omega⟩, ⟨by have := HZ.out; rw [HW.out]; omega⟩, ⟨by rw [HW.out]; exact HE.out⟩, HLR, ⟨(by (with_reducible repeat (first | apply Kd.R_alloc | apply Kd.R_drewN | apply Kd.R_drew)); exact RU.out)⟩, ⟨(by repeat (first | (with_reducible first | exact HB3.out | apply below_alloc | apply pw_below_drewN | apply below_drew1) | exact HB3.out))⟩⟩
     | zero =>
      have cyb : decide (x < (m : Int)) = false := decide_eq_false (by have := HY.out; omega)
      have e_ := HA.out
      simp only [cl.x1] at e_
      subst e_
      obtain ⟨RH, hRH⟩ : ∃ z, cl.hal c 0 row = z := ⟨_, rfl⟩
      have HRH := Aside0.mk hRH
      have HHL : Aside0 (RH.length = c) := ⟨by rw [← hRH, cl.hal_len]; exact HLR.out⟩
      clear hRH
      go_wp2
      go_loopg [12] 30 (fun kq vj wr => ∃ (j : Int) (s : Nat) (ro : List Int), vj = .int .i64 j ∧ Aside0 (s < kq) ∧ Aside0 ((s : Int) + j = (c : Int) ∧ 0 ≤ j) ∧ Aside0 (cl.hal s j ro = RH) ∧ Aside0 (ro.length = c) ∧ Aside0 (Kd.R (Kd.int .i64) 2 wr wq.heap.size (fun _ => True) (.slice (some ⟨gU, 0, none⟩) c cU) ro) ∧ Aside0 (Below wq.heap.size wq wr))
      case atStart => exact ⟨0, c, row, (by first | rfl | (simp; done) | (simp [*]; done)), ⟨by have := HC8.out; omega⟩, ⟨by omega⟩, HRH, HLR, ⟨(by (with_reducible repeat (first | apply Kd.R_alloc | apply Kd.R_drewN | apply Kd.R_drew)); exact RU.out)⟩, ⟨(by repeat (first | (with_reducible first | exact HB3.out | apply below_alloc | apply pw_below_drewN | apply below_drew1) | exact HB3.out))⟩⟩
      case round =>
       clear RU HB3 HLR hzgb_0
       obtain ⟨j, s, ro, rfl, HQ3, HJ, HE, HLR, RU, HB3⟩ := hrel
       cases gk with
       | zero => exact absurd HQ3.out (Nat.not_lt_zero _)
       | succ k2 =>
       cases s with
       | succ s =>
        have hj0 : 0 ≤ j := HJ.out.2
        have hj1 : j < (c : Int) := by have := HJ.out; omega
        have cjb : decide (j < (c : Int)) = true := decide_eq_true hj1
        have ppj : (0 ≤ j) = True := eq_true hj0
        have qqj : (j < (c : Int)) = True := eq_true hj1
        have HJ0 := Aside0.mk hj0
        have HJ1 := Aside0.mk hj1
        clear hj0 hj1
        have HE := HE.out
        unfold cl.hal at HE
        have HE := Aside0.mk HE
        obtain ⟨hzj, hfj⟩ := Kd.R_celln 0 RU.out j HJ0.out HJ1.out
        replace hzj : wr.cell? ⟨gU, j.toNat, none⟩ = some (.int .i64 (rd ro j)) := hzj
        go_wp2
        have n0_ : Aside0 (Kd.R (Kd.int .i64) 2 (World.setCell wr ⟨gU, j.toNat, none⟩ (.int .i64 (wrap64 (Int.tdiv (rd ro j) 2)))) wq.heap.size (fun _ => True) (.slice (some ⟨gU, 0, none⟩) c cU) (ro.set j.toNat (wrap64 (Int.tdiv (rd ro j) 2)))) := ⟨Kd.R_putn RU.out j (wrap64 (Int.tdiv (rd ro j) 2))⟩
        have n1_ : Aside0 (Below wq.heap.size wq (World.setCell wr ⟨gU, j.toNat, none⟩ (.int .i64 (wrap64 (Int.tdiv (rd ro j) 2))))) := ⟨below_set HB3.out GU.out⟩
        have n2_ : Aside0 ((ro.set j.toNat (wrap64 (Int.tdiv (rd ro j) 2))).length = c) := ⟨by rw [List.length_set]; exact HLR.out⟩
        clear RU HB3 HLR hzj hfj
        generalize (World.setCell wr ⟨gU, j.toNat, none⟩ (.int .i64 (wrap64 (Int.tdiv (rd ro j) 2)))) = w14 at n0_ n1_ ⊢
        have RU := n0_
        have HB3 := n1_
        have HLR := n2_
        clear n0_ n1_ n2_
        try go_wp2
        go_roundg k2
        case measure => omega
        case rel =>
         have HW := Aside0.mk (show wrap64 (j + 1) = j + 1 by have := HJ0.out; have := HJ1.out; have := HC8.out; unfold wrap64; omega)
         exact ⟨wrap64 (j + 1), s, _, (by first | rfl | (simp; done) | (simp [*]; done)), ⟨by have := HQ3.out; omega⟩, ⟨by have := HJ.out; rw [HW.out]; omega⟩, ⟨by rw [HW.out]; exact HE.out⟩, HLR, ⟨(by (with_reducible repeat (first | apply Kd.R_alloc | apply Kd.R_drewN | apply Kd.R_drew)); exact RU.out)⟩, ⟨(by repeat (first | (with_reducible first | exact HB3.out | apply below_alloc | apply pw_below_drewN | apply below_drew1) | exact HB3.out))⟩⟩
       | zero =>
        have cjb : decide (j < (c : Int)) = false := decide_eq_false (by have := HJ.out; omega)
        have e_ := HE.out
        simp only [cl.hal] at e_
        subst e_
        have n_ := Aside0.mk (Kd.S_mono (ok' := fun k_ => some k_ ≠ (.slice (some ⟨gU, 0, none⟩) c cU : Value).ownBlock) (Kd.S_bound SL.out) (fun k_ hk_ e_ => Nat.not_le.2 hk_.2.2.1 (Kd.R_base RU.out k_ e_.symm)))
        have n2_ := Aside0.mk (Kd.S_below n_.out HB3.out)
        clear SL n_
        have SL := n2_
        clear n2_
        have RO := Aside0.mk (Kd.R_lower RU.out (below_size HB2.out))
        clear RU
        have n_ := Aside0.mk (below_step HB2.out HB3.out); clear HB2; have HB2 := n_; clear n_
        have n4_ : Aside0 (Ar (Value.int .i64) 59 wr g4 W) := ⟨ar_below AR4.out HB3.out⟩
        have n6_ : Aside0 (Ar (Value.int .i64) 60 wr g6 FT) := ⟨ar_below AR6.out HB3.out⟩
        clear AR4 AR6
        have AR4 := n4_
        have AR6 := n6_
        clear n4_ n6_ HB3
        go_wp2_with (first | ((with_reducible refine gate_builtin (b := .append) (xs := #[.tmp 86, .tmp 88]) rfl ?_); at_builtin; refine Kd.S_append (Kd.slice 2 (Kd.int .i64)) (w0 := w1) w1.heap.size rfl (.tmp 86) (.tmp 88) 35 22 (.slice none 0 0) 24 rfl Try.underlying35 infoRow rfl (by decide) (by omega) u7 (r1.take kk.toNat) ro [(.slice (some ⟨gU, 0, none⟩) c cU : Value)] (fun _ => True) (fun k_ => some k_ = (.slice (some ⟨gU, 0, none⟩) c cU : Value).ownBlock) rfl rfl ?aP (fun k_ hk_ => ((Kd.R_apart' RO.out (Kd.S_typed SL.out) (by decide))).1 k_ hk_.symm) ?aF ?aO ?aB ?aS ?aL ?_; (case aP => exact Kd.M_row (Kd.R_mono (Kd.R_tight rfl (Kd.R_apart' RO.out (Kd.S_typed SL.out) (by decide))) (fun _ h_ => h_))); (case aB => exact (by repeat (first | (with_reducible first | exact HB2.out | apply below_alloc | apply pw_below_drewN | apply below_drew1) | exact HB2.out))); (case aF => exact (fun k_ hk => trivial)); (case aO => exact (by (with_reducible repeat (first | apply Kd.S_alloc | apply Kd.S_drewN | apply Kd.S_drew)); exact Kd.S_mono SL.out (fun k_ hk => ⟨trivial, fun e_ => hk e_⟩))); (case aS => exact (below_size (by repeat (first | (with_reducible first | exact HB2.out | apply below_alloc | apply pw_below_drewN | apply below_drew1) | exact HB2.out)))); (case aL => rw [List.length_take]; have := HC8.out; have := HX0.out; have := HX1.out; omega); intro v7_ w15 ho hb hg hat; have n4_ : Aside0 (Ar (Value.int .i64) 59 w15 g4 W) := ⟨blk_grown (by (with_reducible repeat (first | refine ar_alloc ?_ _ | refine ar_drewN ?_ _ | refine ar_drew ?_)); exact AR4.out) hg (Kd.S_ne SL.out AR4.out (by decide))⟩; have n6_ : Aside0 (Ar (Value.int .i64) 60 w15 g6 FT) := ⟨blk_grown (by (with_reducible repeat (first | refine ar_alloc ?_ _ | refine ar_drewN ?_ _ | refine ar_drew ?_)); exact AR6.out) hg (Kd.S_ne SL.out AR6.out (by decide))⟩; clear AR4 AR6; have AR4 := n4_; have AR6 := n6_; clear n4_ n6_; clear SL RO HB2; have SL := Aside0.mk ho; have HB2 := Aside0.mk hb; clear ho hb hg hat))
        go_roundg k1
        case measure => omega
        case rel =>
         have HW := Aside0.mk (show wrap64 (kk + 1) = kk + 1 by have := HX0.out; have := HX1.out; have := HC8.out; unfold wrap64; omega)
         have HT : Aside0 (r1.take kk.toNat ++ [ro] = r1.take (kk + 1).toNat) := ⟨by have h_ := cl.tab_take FT W m c kk HX0.out HX1.out; rw [HTB.out] at h_; rw [← h_]; congr 2; unfold cl.rowOf; rw [show ((kk.toNat : Nat) : Int) = kk by have := HX0.out; omega, HRX0.out]; exact HRH.out.symm⟩
         exact ⟨wrap64 (kk + 1), q, (by first | rfl | (simp; done) | (simp [*]; done)), ⟨by have := HQ.out; omega⟩, ⟨by have := HX.out; rw [HW.out]; omega⟩, ⟨by rw [HW.out, ← HT.out]; exact (by (with_reducible repeat (first | apply Kd.S_alloc | apply Kd.S_drewN | apply Kd.S_drew)); exact SL.out)⟩, ⟨(by (with_reducible repeat (first | refine ar_alloc ?_ _ | refine ar_drewN ?_ _ | refine ar_drew ?_)); exact AR4.out)⟩, ⟨(by (with_reducible repeat (first | refine ar_alloc ?_ _ | refine ar_drewN ?_ _ | refine ar_drew ?_)); exact AR6.out)⟩, ⟨(by repeat (first | (with_reducible first | exact HB2.out | apply below_alloc | apply pw_below_drewN | apply below_drew1) | exact HB2.out))⟩⟩


/-! ### impl_within: function 48 -/
def impl_within.f (a0 : Int) (a1 : Int) (a2 : Int) : Option (Bool) := if a0 ≥ a1 then (some (decide (a0 ≤ a2))) else (some false)
set_option maxHeartbeats 8000000 in
set_option maxRecDepth 100000 in
theorem impl_within.calls (a0 : Int) (a1 : Int) (a2 : Int) (r : Bool) (w : World) (h : impl_within.f a0 a1 a2 = some r) :
  Calls Try.prog 48 #[.int .i64 a0, .int .i64 a1, .int .i64 a2] w fun e w' => e = .returned (.bool r) ∧ Drawn0 w w' := by
 have H : (if a0 ≥ a1 then (some (decide (a0 ≤ a2))) else (some false)) = some r := h
 clear h
 by_cases c4 : a0 ≥ a1
 ·rw [if_pos c4] at H
  have c4b0 : decide (a1 ≤ a0) = true := decide_eq_true c4
  clear c4
  obtain rfl := Option.some.inj H
  go_enter Try.func48, Try.ntmps48
  go_wp2
  go_ret
  exact ⟨by first | rfl | (simp; done) | (simp [*]; done), by repeat (first | exact Drawn0.refl _ | apply Drawn0.step)⟩
 ·rw [if_neg c4] at H
  have c4b0 : decide (a1 ≤ a0) = false := decide_eq_false c4
  clear c4
  obtain rfl := Option.some.inj H
  go_enter Try.func48, Try.ntmps48
  go_wp2
  go_ret
  exact ⟨by first | rfl | (simp; done) | (simp [*]; done), by repeat (first | exact Drawn0.refl _ | apply Drawn0.step)⟩

/-! ### impl_isCount: function 85 -/
def impl_isCount.f (a0 : Int) : Option (Bool) := (impl_within.f a0 1 8).bind fun t135 => (some t135)
set_option maxHeartbeats 8000000 in
set_option maxRecDepth 100000 in
theorem impl_isCount.calls (a0 : Int) (r : Bool) (w : World) (h : impl_isCount.f a0 = some r) :
  Calls Try.prog 85 #[.int .i64 a0] w fun e w' => e = .returned (.bool r) ∧ Drawn0 w w' := by
 have H : ((impl_within.f a0 1 8).bind fun t135 => (some t135)) = some r := h
 clear h
 replace H := Option.bind_eq_some_iff.mp H
 obtain ⟨t135, A20, H⟩ := H
 replace H : (some t135) = some r := H
 have A2 := Aside0.mk A20
 clear A20
 obtain rfl := Option.some.inj H
 go_enter Try.func85, Try.ntmps85
 go_wp2_with (first | ((with_reducible refine gate_callee (f := 48) rfl ?_); refine goesL_ (some 4) rfl rfl Try.func48 (by kernel_rfl) rfl #[.int .i64 a0, .int .i64 1, .int .i64 8] rfl (by (try simp only [List.map_toArray, List.map_cons, List.map_nil]); first | done | rfl | (simp only [List.length_drop, List.length_take]; rfl)) ?_; (with_reducible refine (impl_within.calls a0 1 8 t135 _ A2.out).mono ?_); rintro e w' ⟨rfl, ⟨nd, rfl⟩⟩; refine ⟨_, rfl, ?_⟩))
 go_ret
 exact ⟨by first | rfl | (simp; done) | (simp [*]; done), by repeat (first | exact Drawn0.refl _ | apply Drawn0.step)⟩

/-! ### impl_isLetter: function 86 -/
def impl_isLetter.f (a0 : Int) (a1 : Int) : Option (Bool) := if a0 = 0 then (some false) else ((impl_within.f a0 (wrap64 (1 - a1)) (wrap64 (a1 - 1))).bind fun t136 => (some t136))
set_option maxHeartbeats 8000000 in
set_option maxRecDepth 100000 in
theorem impl_isLetter.calls (a0 : Int) (a1 : Int) (r : Bool) (w : World) (h : impl_isLetter.f a0 a1 = some r) :
  Calls Try.prog 86 #[.int .i64 a0, .int .i64 a1] w fun e w' => e = .returned (.bool r) ∧ Drawn0 w w' := by
 have H : (if a0 = 0 then (some false) else ((impl_within.f a0 (wrap64 (1 - a1)) (wrap64 (a1 - 1))).bind fun t136 => (some t136))) = some r := h
 clear h
 by_cases c3 : a0 = 0
 ·rw [if_pos c3] at H
  have c3b0 : (a0 == 0) = true := beq_iff_eq.mpr c3
  have c3b1 : (a0 != 0) = false := bne_eq_false_iff_eq.mpr c3
  clear c3
  obtain rfl := Option.some.inj H
  go_enter Try.func86, Try.ntmps86
  go_wp2
  go_ret
  exact ⟨by first | rfl | (simp; done) | (simp [*]; done), by repeat (first | exact Drawn0.refl _ | apply Drawn0.step)⟩
 ·rw [if_neg c3] at H
  have c3b0 : (a0 == 0) = false := beq_eq_false_iff_ne.mpr c3
  have c3b1 : (a0 != 0) = true := bne_iff_ne.mpr c3
  replace H := Option.bind_eq_some_iff.mp H
  obtain ⟨t136, A40, H⟩ := H
  replace H : (some t136) = some r := H
  have A4 := Aside0.mk A40
  clear A40
  obtain rfl := Option.some.inj H
  go_enter Try.func86, Try.ntmps86
  go_wp2_with (first | (go_at_call 48; (with_reducible refine (impl_within.calls a0 (wrap64 (1 - a1)) (wrap64 (a1 - 1)) t136 _ A4.out).mono ?_); rintro e w' ⟨rfl, ⟨nd, rfl⟩⟩))
  go_ret
  exact ⟨by first | rfl | (simp; done) | (simp [*]; done), by repeat (first | exact Drawn0.refl _ | apply Drawn0.step)⟩

/-! ### impl_IsBraid: function 47 -/
mutual
def impl_IsBraid.j0 : Nat → Bool → Int → List Int → Option (Bool)
 | 0, _, _, _ => none
 | k + 1, x14, x138000, x138001 => if x14 = true then (some false) else (impl_IsBraid.l0 k x138001 (x138001.length : Int) 0 x138000 x138001)
def impl_IsBraid.l0 : Nat → List Int → Int → Int → Int → List Int → Option (Bool)
 | 0, _, _, _, _, _ => none
 | k + 1, x16, x17, x18, x138000, x138001 => if x18 < x17 then (if 0 ≤ x18 then (if x18 < (x16.length : Int) then ((impl_isLetter.f (rd x16 x18) x138000).bind fun t140 => (if t140 = true then (impl_IsBraid.l0 k x16 x17 (wrap64 (x18 + 1)) x138000 x138001) else (some false))) else (none)) else (none)) else (some true)
end
def impl_IsBraid.f (k : Nat) (a0_0 : Int) (l0_1 : List Int) : Option (Bool) := (impl_isCount.f a0_0).bind fun t138 => (if t138 = true then (impl_IsBraid.j0 k (decide ((l0_1.length : Int) > 200)) a0_0 l0_1) else (impl_IsBraid.j0 k true a0_0 l0_1))
theorem impl_IsBraid.mono_l : ∀ k, (∀ y0 y1 y2, LeO (impl_IsBraid.j0 k y0 y1 y2) (impl_IsBraid.j0 (k + 1) y0 y1 y2)) ∧ (∀ y0 y1 y2 y3 y4, LeO (impl_IsBraid.l0 k y0 y1 y2 y3 y4) (impl_IsBraid.l0 (k + 1) y0 y1 y2 y3 y4))
 | 0 => ⟨fun _ _ _ r h => by simp [impl_IsBraid.j0] at h, fun _ _ _ _ _ r h => by simp [impl_IsBraid.l0] at h⟩
 | k + 1 => by
  obtain ⟨ih0, ih1⟩ := impl_IsBraid.mono_l k
  refine ⟨?_, ?_⟩
  ·intro y0 y1 y2
   unfold impl_IsBraid.j0
   repeat' first
   | (with_reducible exact ih0 _ _ _)
   | (with_reducible exact ih1 _ _ _ _ _)
   | (with_reducible exact LeO.refl _)
   | (with_reducible exact LeO.none _)
   | (with_reducible refine LeO.ite ?_ ?_)
   | (with_reducible refine LeO.bind ?_ (fun _ => ?_))
   | exact ih0 _ _ _
   | exact ih1 _ _ _ _ _
   | exact LeO.none _
   | refine LeO.ite ?_ ?_
   | refine LeO.bind ?_ (fun _ => ?_)
  ·intro y0 y1 y2 y3 y4
   unfold impl_IsBraid.l0
   repeat' first
   | (with_reducible exact ih0 _ _ _)
   | (with_reducible exact ih1 _ _ _ _ _)
   | (with_reducible exact LeO.refl _)
   | (with_reducible exact LeO.none _)
   | (with_reducible refine LeO.ite ?_ ?_)
   | (with_reducible refine LeO.bind ?_ (fun _ => ?_))
   | exact ih0 _ _ _
   | exact ih1 _ _ _ _ _
   | exact LeO.none _
   | refine LeO.ite ?_ ?_
   | refine LeO.bind ?_ (fun _ => ?_)
theorem impl_IsBraid.mono : ∀ a0 a1 k, LeO (impl_IsBraid.f k a0 a1) (impl_IsBraid.f (k + 1) a0 a1) := by
 intro a0 a1 k
 obtain ⟨ih0, ih1⟩ := impl_IsBraid.mono_l k
 unfold impl_IsBraid.f
 repeat' first
   | (with_reducible exact ih0 _ _ _)
   | (with_reducible exact ih1 _ _ _ _ _)
   | (with_reducible exact LeO.refl _)
   | (with_reducible exact LeO.none _)
   | (with_reducible refine LeO.ite ?_ ?_)
   | (with_reducible refine LeO.bind ?_ (fun _ => ?_))
   | exact ih0 _ _ _
   | exact ih1 _ _ _ _ _
   | exact LeO.none _
   | refine LeO.ite ?_ ?_
   | refine LeO.bind ?_ (fun _ => ?_)
set_option maxHeartbeats 8000000 in
set_option maxRecDepth 100000 in
theorem impl_IsBraid.calls (k : Nat) (a0_0 : Int) (A0_1 : Option Addr) (c0_1 : Nat) (l0_1 : List Int) (r : Bool) (w : World) (hr0_1 : Kd.C (Kd.int .i64) w A0_1 l0_1.length l0_1) (hc0_1 : l0_1.length ≤ c0_1) (h : impl_IsBraid.f k a0_0 l0_1 = some r) :
  Calls Try.prog 47 #[.agg #[.int .i64 a0_0, .slice A0_1 l0_1.length c0_1]] w fun e w' => e = .returned (.bool r) ∧ Below w.heap.size w w' := by
 have hu26 := Try.underlying26
 have HR0_1 := Aside0.mk hr0_1
 have HC0_1 := Aside0.mk hc0_1
 clear hr0_1 hc0_1
 have HB := Aside0.mk (Below.refl w.heap.size w)
 have H : ((impl_isCount.f a0_0).bind fun t138 => (if t138 = true then (impl_IsBraid.j0 k (decide ((l0_1.length : Int) > 200)) a0_0 l0_1) else (impl_IsBraid.j0 k true a0_0 l0_1))) = some r := h
 clear h
 have HC2 := Aside0.mk H
 clear H
 go_enter Try.func47, Try.ntmps47
 go_upto_region 1 with (first | ((with_reducible refine gate_dst (N := 1) rfl ?_); (try (refine gate_guard (by rfl) ?_; dsimp only)); refine box_event ?hg (N := 1) ?hd (cs := #[.int .i64 a0_0, .slice A0_1 l0_1.length c0_1]) (t := 26) ?hr ?_; (case hd => rfl); (case hg => rfl); (case hr => first | (go_simp; done) | (go_simp; rfl)); intro gb137 hg w3 hbox hb; have n0_ := Aside0.mk (below_step (by repeat (first | (with_reducible first | exact HB.out | apply below_alloc | apply pw_below_drewN | apply below_drew1) | exact HB.out)) hb); have n1_ := Aside0.mk (hbox); have n2_ := Aside0.mk ((by rw [hg]; exact (below_size (by repeat (first | (with_reducible first | exact HB.out | apply below_alloc | apply pw_below_drewN | apply below_drew1) | exact HB.out))) : w.heap.size ≤ gb137)); have n3_ := Aside0.mk ((by rw [hg]; exact (below_size (by repeat (first | (with_reducible first | exact HB.out | apply below_alloc | apply pw_below_drewN | apply below_drew1) | exact HB.out))) : w.heap.size ≤ gb137)); clear HB; have HB := n0_; have BK137 := n1_; have GW137 := n2_; have GE137 := n3_; clear n0_ n1_ n2_ n3_; clear hb hbox hg))
 (try simp only [Act.put, List.setIfInBounds_toArray, List.set_cons_zero, List.set_cons_succ])
 go_cut [14] (fun v14 wc => ∃ (kq : Nat) (x14_1 : Bool), v14 = .bool x14_1 ∧ Aside0 (impl_IsBraid.j0 kq x14_1 a0_0 l0_1 = some r) ∧ Aside0 (kq ≤ k) ∧ Aside0 (wc.heap[gb137]? = some (.cells #[.int .i64 a0_0, (.slice A0_1 l0_1.length c0_1)] 26 (0, 0))) ∧ Aside0 (Below w.heap.size w wc))
 case first =>
  have H := HC2.out
  clear HC2
  replace H := Option.bind_eq_some_iff.mp H
  obtain ⟨t138, A40, H⟩ := H
  replace H : (if t138 = true then (impl_IsBraid.j0 k (decide ((l0_1.length : Int) > 200)) a0_0 l0_1) else (impl_IsBraid.j0 k true a0_0 l0_1)) = some r := H
  have A4 := Aside0.mk A40
  clear A40
  by_cases c5 : t138 = true
  ·subst c5
   have H1 : (impl_IsBraid.j0 k (decide ((l0_1.length : Int) > 200)) a0_0 l0_1) = some r := by rw [if_pos rfl] at H; exact H
   clear H
   have H := H1
   clear H1
   have H' := Aside0.mk H
   clear H
   have hcz6_0 : w3.cell? ⟨gb137, 0, none⟩ = some (.int .i64 a0_0) := (blk_cell BK137.out 0).trans rfl
   have hcz6_1 : w3.cell? ⟨gb137, 1, none⟩ = some (.slice A0_1 l0_1.length c0_1) := (blk_cell BK137.out 1).trans rfl
   have hfz6_0 := blk_frozen BK137.out 0
   have hfz6_1 := blk_frozen BK137.out 1
   go_wp2_with (first | ((with_reducible refine gate_callee (f := 85) rfl ?_); refine goesL_ (some 7) rfl rfl Try.func85 (by kernel_rfl) rfl #[.int .i64 a0_0] rfl (by (try simp only [List.map_toArray, List.map_cons, List.map_nil]); first | done | rfl | (simp only [List.length_drop, List.length_take]; rfl)) ?_; (with_reducible refine (impl_isCount.calls a0_0 true _ A4.out).mono ?_); rintro e w' ⟨rfl, ⟨nd, rfl⟩⟩; refine ⟨_, rfl, ?_⟩))
   go_meet
   case rel => exact ⟨_, (decide ((l0_1.length : Int) > 200)), (by first | rfl | (simp; done) | (simp [*]; done)), H', ⟨by first | omega | exact Nat.le_refl _⟩, ⟨by (with_reducible repeat (first | refine blk_drewN ?_ _ | refine blk_drew ?_ | refine blk_alloc ?_ _)); exact BK137.out⟩, ⟨by repeat (first | (with_reducible first | exact HB.out | apply below_alloc | apply pw_below_drewN | apply below_drew1 | refine below_set ?_ GE137.out) | exact HB.out)⟩⟩
  ·replace c5 := Bool.eq_false_iff.mpr c5
   subst c5
   have H1 : (impl_IsBraid.j0 k true a0_0 l0_1) = some r := by rw [if_neg (show ¬ (false = true) by decide)] at H; exact H
   clear H
   have H := H1
   clear H1
   have H' := Aside0.mk H
   clear H
   have hcz7_0 : w3.cell? ⟨gb137, 0, none⟩ = some (.int .i64 a0_0) := (blk_cell BK137.out 0).trans rfl
   have hcz7_1 : w3.cell? ⟨gb137, 1, none⟩ = some (.slice A0_1 l0_1.length c0_1) := (blk_cell BK137.out 1).trans rfl
   have hfz7_0 := blk_frozen BK137.out 0
   have hfz7_1 := blk_frozen BK137.out 1
   go_wp2_with (first | ((with_reducible refine gate_callee (f := 85) rfl ?_); refine goesL_ (some 7) rfl rfl Try.func85 (by kernel_rfl) rfl #[.int .i64 a0_0] rfl (by (try simp only [List.map_toArray, List.map_cons, List.map_nil]); first | done | rfl | (simp only [List.length_drop, List.length_take]; rfl)) ?_; (with_reducible refine (impl_isCount.calls a0_0 false _ A4.out).mono ?_); rintro e w' ⟨rfl, ⟨nd, rfl⟩⟩; refine ⟨_, rfl, ?_⟩))
   go_meet
   case rel => exact ⟨_, (true), (by first | rfl | (simp; done) | (simp [*]; done)), H', ⟨by first | omega | exact Nat.le_refl _⟩, ⟨by (with_reducible repeat (first | refine blk_drewN ?_ _ | refine blk_drew ?_ | refine blk_alloc ?_ _)); exact BK137.out⟩, ⟨by repeat (first | (with_reducible first | exact HB.out | apply below_alloc | apply pw_below_drewN | apply below_drew1 | refine below_set ?_ GE137.out) | exact HB.out)⟩⟩
 case rest =>
  clear HC2
  try clear p2
  try clear c4
  try clear c5
  try clear hcz6_0
  try clear hcz6_1
  try clear hcz7_0
  try clear hcz7_1
  try clear hfz6_0
  try clear hfz6_1
  try clear hfz7_0
  try clear hfz7_1
  obtain ⟨kq, x14_1, rfl, HA, HJ1, BK137, HB⟩ := hcut
  cases kq with
  | zero => exact absurd HA.out (by simp [impl_IsBraid.j0])
  | succ kj1 =>
   have H := HA.out
   clear HA
   simp only [impl_IsBraid.j0] at H
   by_cases c8 : x14_1 = true
   ·subst c8
    have H1 : (some false) = some r := by rw [if_pos rfl] at H; exact H
    clear H
    have H := H1
    clear H1
    obtain rfl := Option.some.inj H
    go_wp2
    go_ret
    exact ⟨by first | rfl | (simp [errW_none, errW_some] <;> rfl) | (simp [*, errW_none, errW_some] <;> rfl), by repeat (first | (with_reducible first | exact HB.out | apply below_alloc | apply pw_below_drewN | apply below_drew1 | refine below_set ?_ GE137.out) | exact HB.out)⟩
   ·replace c8 := Bool.eq_false_iff.mpr c8
    subst c8
    have H1 : (impl_IsBraid.l0 kj1 l0_1 (l0_1.length : Int) 0 a0_0 l0_1) = some r := by rw [if_neg (show ¬ (false = true) by decide)] at H; exact H
    clear H
    have H := H1
    clear H1
    have H' := Aside0.mk H
    clear H
    have hcz9_0 : wc.cell? ⟨gb137, 0, none⟩ = some (.int .i64 a0_0) := (blk_cell BK137.out 0).trans rfl
    have hcz9_1 : wc.cell? ⟨gb137, 1, none⟩ = some (.slice A0_1 l0_1.length c0_1) := (blk_cell BK137.out 1).trans rfl
    have hfz9_0 := blk_frozen BK137.out 0
    have hfz9_1 := blk_frozen BK137.out 1
    go_wp2
    go_loopg [18] kj1 (fun kq v18 w' => ∃ (x18_2 : Int), v18 = .int .i64 x18_2 ∧ Aside0 (impl_IsBraid.l0 kq l0_1 (l0_1.length : Int) x18_2 a0_0 l0_1 = some r) ∧ Aside0 (kq ≤ kj1) ∧ Aside0 (w'.heap[gb137]? = some (.cells #[.int .i64 a0_0, (.slice A0_1 l0_1.length c0_1)] 26 (0, 0))) ∧ Aside0 (Below w.heap.size w w'))
    case atStart => exact ⟨(0), (by first | rfl | (simp; done) | (simp [*]; done)), H', ⟨Nat.le_refl _⟩, ⟨by (with_reducible repeat (first | refine blk_drewN ?_ _ | refine blk_drew ?_ | refine blk_alloc ?_ _)); exact BK137.out⟩, ⟨by repeat (first | (with_reducible first | exact HB.out | apply below_alloc | apply pw_below_drewN | apply below_drew1 | refine below_set ?_ GE137.out) | exact HB.out)⟩⟩
    case round =>
     clear H'
     try clear p2
     try clear c4
     try clear c5
     try clear c8
     try clear hcz6_0
     try clear hcz6_1
     try clear hcz7_0
     try clear hcz7_1
     try clear hcz9_0
     try clear hcz9_1
     try clear hfz6_0
     try clear hfz6_1
     try clear hfz7_0
     try clear hfz7_1
     try clear hfz9_0
     try clear hfz9_1
     try clear p2
     obtain ⟨x18_2, rfl, HA, HK2, BK137, HB⟩ := hrel
     cases gk with
     | zero => exact absurd HA.out (by simp [impl_IsBraid.l0])
     | succ k2 =>
      have H := HA.out
      clear HA
      simp only [impl_IsBraid.l0] at H
      by_cases c10 : x18_2 < (l0_1.length : Int)
      ·rw [if_pos c10] at H
       have c10b0 : decide (x18_2 < (l0_1.length : Int)) = true := decide_eq_true c10
       clear c10
       by_cases c11 : 0 ≤ x18_2
       ·rw [if_pos c11] at H
        have c11b0 : decide (0 ≤ x18_2) = true := decide_eq_true c11
        clear c11
        by_cases c12 : x18_2 < (l0_1.length : Int)
        ·rw [if_pos c12] at H
         have c12b0 : decide (x18_2 < (l0_1.length : Int)) = true := decide_eq_true c12
         clear c12
         replace H := Option.bind_eq_some_iff.mp H
         obtain ⟨t140, A130, H⟩ := H
         replace H : (if t140 = true then (impl_IsBraid.l0 k2 l0_1 (l0_1.length : Int) (wrap64 (x18_2 + 1)) a0_0 l0_1) else (some false)) = some r := H
         have A13 := Aside0.mk A130
         clear A130
         by_cases c14 : t140 = true
         ·subst c14
          have H1 : (impl_IsBraid.l0 k2 l0_1 (l0_1.length : Int) (wrap64 (x18_2 + 1)) a0_0 l0_1) = some r := by rw [if_pos rfl] at H; exact H
          clear H
          have H := H1
          clear H1
          have H' := Aside0.mk H
          clear H
          have p139 : 0 ≤ (x18_2 : Int) := of_decide_eq_true (by first | (with_reducible assumption) | assumption)
          have q139 : x18_2 < (l0_1.length : Int) := of_decide_eq_true (by first | (with_reducible assumption) | assumption)
          obtain ⟨ad139, e139, hx139_0⟩ := Kd.at_int HR0_1.out x18_2 p139 q139
          cases e139
          replace hx139_0 := (HB.out.cell (World.block_lt_of_cell? w _ hx139_0)).trans hx139_0
          replace p139 := eq_true p139
          replace q139 := eq_true q139
          have hcz15_0 : wr.cell? ⟨gb137, 0, none⟩ = some (.int .i64 a0_0) := (blk_cell BK137.out 0).trans rfl
          have hcz15_1 : wr.cell? ⟨gb137, 1, none⟩ = some (.slice (some ad139) l0_1.length c0_1) := (blk_cell BK137.out 1).trans rfl
          have hfz15_0 := blk_frozen BK137.out 0
          have hfz15_1 := blk_frozen BK137.out 1
          go_wp2_with (first | ((with_reducible refine gate_callee (f := 86) rfl ?_); refine goesL_ (some 25) rfl rfl Try.func86 (by kernel_rfl) rfl #[.int .i64 (rd l0_1 x18_2), .int .i64 a0_0] rfl (by (try simp only [List.map_toArray, List.map_cons, List.map_nil]); first | done | rfl | (simp only [List.length_drop, List.length_take]; rfl)) ?_; (with_reducible refine (impl_isLetter.calls (rd l0_1 x18_2) a0_0 true _ A13.out).mono ?_); rintro e w' ⟨rfl, ⟨nd, rfl⟩⟩; refine ⟨_, rfl, ?_⟩))
          go_roundg k2
          case measure => have := HJ1.out; have := HK2.out; omega
          case rel => exact ⟨(wrap64 (x18_2 + 1)), (by first | rfl | (simp; done) | (simp [*]; done)), H', ⟨by have := HJ1.out; have := HK2.out; omega⟩, ⟨by (with_reducible repeat (first | refine blk_drewN ?_ _ | refine blk_drew ?_ | refine blk_alloc ?_ _)); exact BK137.out⟩, ⟨by repeat (first | (with_reducible first | exact HB.out | apply below_alloc | apply pw_below_drewN | apply below_drew1 | refine below_set ?_ GE137.out) | exact HB.out)⟩⟩
         ·replace c14 := Bool.eq_false_iff.mpr c14
          subst c14
          have H1 : (some false) = some r := by rw [if_neg (show ¬ (false = true) by decide)] at H; exact H
          clear H
          have H := H1
          clear H1
          obtain rfl := Option.some.inj H
          have p139 : 0 ≤ (x18_2 : Int) := of_decide_eq_true (by first | (with_reducible assumption) | assumption)
          have q139 : x18_2 < (l0_1.length : Int) := of_decide_eq_true (by first | (with_reducible assumption) | assumption)
          obtain ⟨ad139, e139, hx139_0⟩ := Kd.at_int HR0_1.out x18_2 p139 q139
          cases e139
          replace hx139_0 := (HB.out.cell (World.block_lt_of_cell? w _ hx139_0)).trans hx139_0
          replace p139 := eq_true p139
          replace q139 := eq_true q139
          have hcz16_0 : wr.cell? ⟨gb137, 0, none⟩ = some (.int .i64 a0_0) := (blk_cell BK137.out 0).trans rfl
          have hcz16_1 : wr.cell? ⟨gb137, 1, none⟩ = some (.slice (some ad139) l0_1.length c0_1) := (blk_cell BK137.out 1).trans rfl
          have hfz16_0 := blk_frozen BK137.out 0
          have hfz16_1 := blk_frozen BK137.out 1
          go_wp2_with (first | ((with_reducible refine gate_callee (f := 86) rfl ?_); refine goesL_ (some 25) rfl rfl Try.func86 (by kernel_rfl) rfl #[.int .i64 (rd l0_1 x18_2), .int .i64 a0_0] rfl (by (try simp only [List.map_toArray, List.map_cons, List.map_nil]); first | done | rfl | (simp only [List.length_drop, List.length_take]; rfl)) ?_; (with_reducible refine (impl_isLetter.calls (rd l0_1 x18_2) a0_0 false _ A13.out).mono ?_); rintro e w' ⟨rfl, ⟨nd, rfl⟩⟩; refine ⟨_, rfl, ?_⟩))
          go_ret
          exact ⟨by first | rfl | (simp [errW_none, errW_some] <;> rfl) | (simp [*, errW_none, errW_some] <;> rfl), by repeat (first | (with_reducible first | exact HB.out | apply below_alloc | apply pw_below_drewN | apply below_drew1 | refine below_set ?_ GE137.out) | exact HB.out)⟩
        ·rw [if_neg c12] at H
         exact absurd H (by simp)
       ·rw [if_neg c11] at H
        exact absurd H (by simp)
      ·rw [if_neg c10] at H
       have c10b0 : decide (x18_2 < (l0_1.length : Int)) = false := decide_eq_false c10
       clear c10
       obtain rfl := Option.some.inj H
       go_wp2
       go_ret
       exact ⟨by first | rfl | (simp [errW_none, errW_some] <;> rfl) | (simp [*, errW_none, errW_some] <;> rfl), by repeat (first | (with_reducible first | exact HB.out | apply below_alloc | apply pw_below_drewN | apply below_drew1 | refine below_set ?_ GE137.out) | exact HB.out)⟩

end Go.Proofs.Ytcbomfkimohlfaa.MFnExactComponentLinkings
