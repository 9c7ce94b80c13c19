-- Walks of the functions that a law reaches, one after the other: plain functions, and that the machine's calls come to what they tell (wip/tools/myprint.py of this repo).
import Derived.Test.YtcbomfkimohlfaaMFnExactComponentLinkingsx0
import Derived.Test.YtcbomfkimohlfaaMFnExactComponentLinkingsx2
import Derived.Test.YtcbomfkimohlfaaLibArr
import Derived.Test.YtcbomfkimohlfaaLibCr
namespace Go.Proofs.Ytcbomfkimohlfaa.MFnExactComponentLinkings
open Go.RowKit Go.Proofs.YtcbomfkimohlfaaW.PrintWords Go.Proofs.YtcbomfkimohlfaaW.PrintLast Go.Proofs.YtcbomfkimohlfaaW.PrintMore
open Go.Proofs.Ytcbomfkimohlfaa.LibCr
open Go.Proofs.Ytcbomfkimohlfaa.LibArr
attribute [local go_sem] max2_int min2_int max_two min_two max_three min_three max_four min_four   -- for this text's walks alone
set_option linter.unusedVariables false
set_option linter.unusedSimpArgs false

/-! ### spec_l01Crossings: function 65 -/
theorem infoInt : (Try.prog.info? 2).map (fun i => (i.zero, i.size, i.bytes)) = some (some (.int .i64 0), 1, 8) := by kernel_rfl
theorem infoRow : (Try.prog.info? 22).map (fun i => (i.zero, i.size, i.bytes)) = some (some (.slice none 0 0), 1, 24) := by kernel_rfl
theorem fillL_cr : ∀ k, fillL k = cr.fill k
 | 0 => rfl
 | k + 1 => by simp only [fillL, cr.fill, fillL_cr k]
def spec_l01Crossings.T9 : Bool × List (List Nat × List Nat) := (true, [([], []), ([0], [0]), ([1], [1]), ([2], [2]), ([], []), ([4], [4]), ([5], [5]), ([3, 0, 1, 2, 3], [3]), ([6, 7, 0, 1, 2, 3, 4, 5, 6, 7], [6])])
def spec_l01Crossings.B9 : List Nat := [0, 1, 3, 7, 0, 16, 48, 15, 255]
theorem spec_l01Crossings.tab9 : rtab .any (opsOf Try.f65 9) = spec_l01Crossings.T9 := by kernel_rfl
theorem spec_l01Crossings.bits9 : waitsOk spec_l01Crossings.T9.2 spec_l01Crossings.B9 = true := by kernel_rfl
def spec_l01Crossings.T10 : Bool × List (List Nat × List Nat) := (true, [([], []), ([], []), ([], []), ([], []), ([2], [2]), ([4, 3], [3, 4]), ([5], [5]), ([], []), ([6, 7], [6, 7]), ([0], [0]), ([9, 1, 0, 1, 2, 3, 4, 5, 6, 7, 8], [1, 9]), ([10, 8, 0, 1, 2, 3, 4, 5, 6, 7, 8], [8, 10])])
def spec_l01Crossings.B10 : List Nat := [0, 0, 0, 0, 4, 28, 60, 0, 252, 1, 1023, 2047]
theorem spec_l01Crossings.tab10 : rtab .any (opsOf Try.f65 10) = spec_l01Crossings.T10 := by kernel_rfl
theorem spec_l01Crossings.bits10 : waitsOk spec_l01Crossings.T10.2 spec_l01Crossings.B10 = true := by kernel_rfl
def spec_l01Crossings.T11 : Bool × List (List Nat × List Nat) := (true, [([], []), ([], []), ([], []), ([], []), ([2], [2]), ([4, 3], [3, 4]), ([5], [5]), ([], []), ([6, 7], [6, 7]), ([0], [0]), ([9, 1, 0, 1, 2, 3, 4, 5, 6, 7, 8], [1, 9]), ([10, 8, 0, 1, 2, 3, 4, 5, 6, 7, 8], [8, 10])])
def spec_l01Crossings.B11 : List Nat := [0, 0, 0, 0, 4, 28, 60, 0, 252, 1, 1023, 2047]
theorem spec_l01Crossings.tab11 : rtab .any (opsOf Try.f65 11) = spec_l01Crossings.T11 := by kernel_rfl
theorem spec_l01Crossings.bits11 : waitsOk spec_l01Crossings.T11.2 spec_l01Crossings.B11 = true := by kernel_rfl
set_option maxHeartbeats 8000000 in
set_option maxRecDepth 100000 in
theorem cross_calls (n : Int) (hn : 1 ≤ n ∧ n ≤ 8) (A1 : Option Addr) (c1 : Nat) (l1 : List Int) (hg : cr.good l1) (w : World) (hr1 : Kd.C (Kd.int .i64) w A1 l1.length l1) (hc1 : l1.length ≤ c1) :
  Calls Try.prog 65 #[.int .i64 n, .slice A1 l1.length c1] w fun e w' => e = .returned (.agg ((cr.runT l1 (cr.fill n.toNat) (List.replicate 64 0)).map (Value.int .i64)).toArray) ∧ Below w.heap.size w w' := by
 have hu := Try.underlying60
 have hu5 := Try.underlying64
 have hu6 := Try.underlying59
 have hu7 := Try.underlying5
 have HR1 := Aside0.mk hr1
 have HC1 := Aside0.mk hc1
 have HG := Aside0.mk hg
 have HN := Aside0.mk hn
 clear hr1 hc1 hg hn
 have HB := Aside0.mk (Below.refl w.heap.size w)
 obtain ⟨FT, hFT⟩ : ∃ x, cr.runT l1 (cr.fill n.toNat) (List.replicate 64 0) = x := ⟨_, rfl⟩
 have HFT := Aside0.mk hFT
 rw [hFT]
 clear hFT
 go_enter Try.func65, Try.ntmps65
 go_wp2_with (first | ((with_reducible refine gate_dst (N := 4) rfl ?_); refine box_event ?hg (N := 4) ?hd (cs := #[.int .i64 0, .int .i64 0, .int .i64 0, .int .i64 0, .int .i64 0, .int .i64 0, .int .i64 0, .int .i64 0, .int .i64 0, .int .i64 0, .int .i64 0, .int .i64 0, .int .i64 0, .int .i64 0, .int .i64 0, .int .i64 0, .int .i64 0, .int .i64 0, .int .i64 0, .int .i64 0, .int .i64 0, .int .i64 0, .int .i64 0, .int .i64 0, .int .i64 0, .int .i64 0, .int .i64 0, .int .i64 0, .int .i64 0, .int .i64 0, .int .i64 0, .int .i64 0, .int .i64 0, .int .i64 0, .int .i64 0, .int .i64 0, .int .i64 0, .int .i64 0, .int .i64 0, .int .i64 0, .int .i64 0, .int .i64 0, .int .i64 0, .int .i64 0, .int .i64 0, .int .i64 0, .int .i64 0, .int .i64 0, .int .i64 0, .int .i64 0, .int .i64 0, .int .i64 0, .int .i64 0, .int .i64 0, .int .i64 0, .int .i64 0, .int .i64 0, .int .i64 0, .int .i64 0, .int .i64 0, .int .i64 0, .int .i64 0, .int .i64 0, .int .i64 0]) (t := 60) ?hr ?_; (case hd => rfl); (case hg => rfl); (case hr => first | (go_simp; done) | (go_simp; rfl)); intro g4 hg w4 hbox hb; have GE_g4 : Aside0 (w.heap.size ≤ g4) := ⟨by rw [hg]; exact below_size (by repeat (first | (with_reducible first | exact HB.out | apply below_alloc | apply pw_below_drewN | apply below_drew1) | exact HB.out))⟩; have n_ := Aside0.mk (below_step (by repeat (first | (with_reducible first | exact HB.out | apply below_alloc | apply pw_below_drewN | apply below_drew1) | exact HB.out)) hb); clear HB; have HB := n_; clear n_; have AR4 : Aside0 (Ar (Value.int .i64) 60 w4 g4 (List.replicate 64 (0))) := ⟨hbox⟩; clear hbox hb hg) | ((with_reducible refine gate_callee (f := 94) rfl ?_); refine goesL_ (some 14) rfl rfl Try.func94 (by kernel_rfl) rfl #[.int .i64 n, .slice none 0 0] rfl (by (try simp only [List.map_toArray, List.map_cons, List.map_nil]); first | done | rfl) ?_; (refine (strands_calls n (by have := HN.out; omega) none 0 [] (by simp) _ ?side1 (Nat.le_refl _)).mono ?_); (case side1 => exact Kd.C_nil _ _); rintro e wi ⟨rfl, hb⟩; refine ⟨_, rfl, ?_⟩; have n_ := Aside0.mk (ar_below (by (with_reducible repeat (first | refine ar_alloc ?_ _ | refine ar_drewN ?_ _ | refine ar_drew ?_)); exact AR4.out) hb); clear AR4; have AR4 := n_; clear n_; have n_ := Aside0.mk (below_step (by repeat (first | (with_reducible first | exact HB.out | apply below_alloc | apply pw_below_drewN | apply below_drew1) | exact HB.out)) hb); clear HB; have HB := n_; clear n_; clear hb) | ((with_reducible refine gate_dst (N := 5) rfl ?_); refine box_event ?hg (N := 5) ?hd (cs := #[.int .i64 0, .int .i64 0, .int .i64 0, .int .i64 0, .int .i64 0, .int .i64 0, .int .i64 0, .int .i64 0, .int .i64 0, .int .i64 0, .int .i64 0, .int .i64 0, .int .i64 0, .int .i64 0, .int .i64 0, .int .i64 0, .int .i64 0, .int .i64 0, .int .i64 0, .int .i64 0, .int .i64 0, .int .i64 0, .int .i64 0, .int .i64 0, .int .i64 0, .int .i64 0, .int .i64 0, .int .i64 0, .int .i64 0, .int .i64 0, .int .i64 0, .int .i64 0, .int .i64 0, .int .i64 0, .int .i64 0, .int .i64 0, .int .i64 0, .int .i64 0, .int .i64 0, .int .i64 0, .int .i64 0, .int .i64 0, .int .i64 0, .int .i64 0, .int .i64 0, .int .i64 0, .int .i64 0, .int .i64 0, .int .i64 0, .int .i64 0, .int .i64 0, .int .i64 0, .int .i64 0, .int .i64 0, .int .i64 0, .int .i64 0, .int .i64 0, .int .i64 0, .int .i64 0, .int .i64 0, .int .i64 0, .int .i64 0, .int .i64 0, .int .i64 0]) (t := 60) ?hr ?_; (case hd => rfl); (case hg => rfl); (case hr => first | (go_simp; done) | (go_simp; rfl)); intro g5 hg w5 hbox hb; have GE_g5 : Aside0 (w.heap.size ≤ g5) := ⟨by rw [hg]; exact below_size (by repeat (first | (with_reducible first | exact HB.out | apply below_alloc | apply pw_below_drewN | apply below_drew1) | exact HB.out))⟩; have NE_g4_g5 : Aside0 (g4 ≠ g5) := ⟨by have h_ := blk_lt (by (with_reducible repeat (first | refine ar_alloc ?_ _ | refine ar_drewN ?_ _ | refine ar_drew ?_)); exact AR4.out); have h2_ : g5 = _ := hg; intro h3_; rw [h3_, h2_] at h_; exact Nat.lt_irrefl _ h_⟩; have n_ := Aside0.mk (ar_below (by (with_reducible repeat (first | refine ar_alloc ?_ _ | refine ar_drewN ?_ _ | refine ar_drew ?_)); exact AR4.out) hb); clear AR4; have AR4 := n_; clear n_; have n_ := Aside0.mk (below_step (by repeat (first | (with_reducible first | exact HB.out | apply below_alloc | apply pw_below_drewN | apply below_drew1) | exact HB.out)) hb); clear HB; have HB := n_; clear n_; have AR5 : Aside0 (Ar (Value.int .i64) 60 w5 g5 (List.replicate 64 (0))) := ⟨hbox⟩; clear hbox hb hg) | ((with_reducible refine gate_dst (N := 6) rfl ?_); refine box_event ?hg (N := 6) ?hd (cs := #[.int .u8 0, .int .u8 0, .int .u8 0, .int .u8 0, .int .u8 0, .int .u8 0, .int .u8 0, .int .u8 0]) (t := 64) ?hr ?_; (case hd => rfl); (case hg => rfl); (case hr => first | (go_simp; done) | (go_simp; rfl)); intro g6 hg w6 hbox hb; have GE_g6 : Aside0 (w.heap.size ≤ g6) := ⟨by rw [hg]; exact below_size (by repeat (first | (with_reducible first | exact HB.out | apply below_alloc | apply pw_below_drewN | apply below_drew1) | exact HB.out))⟩; have NE_g4_g6 : Aside0 (g4 ≠ g6) := ⟨by have h_ := blk_lt (by (with_reducible repeat (first | refine ar_alloc ?_ _ | refine ar_drewN ?_ _ | refine ar_drew ?_)); exact AR4.out); have h2_ : g6 = _ := hg; intro h3_; rw [h3_, h2_] at h_; exact Nat.lt_irrefl _ h_⟩; have NE_g5_g6 : Aside0 (g5 ≠ g6) := ⟨by have h_ := blk_lt (by (with_reducible repeat (first | refine ar_alloc ?_ _ | refine ar_drewN ?_ _ | refine ar_drew ?_)); exact AR5.out); have h2_ : g6 = _ := hg; intro h3_; rw [h3_, h2_] at h_; exact Nat.lt_irrefl _ h_⟩; have n_ := Aside0.mk (ar_below (by (with_reducible repeat (first | refine ar_alloc ?_ _ | refine ar_drewN ?_ _ | refine ar_drew ?_)); exact AR4.out) hb); clear AR4; have AR4 := n_; clear n_; have n_ := Aside0.mk (ar_below (by (with_reducible repeat (first | refine ar_alloc ?_ _ | refine ar_drewN ?_ _ | refine ar_drew ?_)); exact AR5.out) hb); clear AR5; have AR5 := n_; clear n_; have n_ := Aside0.mk (below_step (by repeat (first | (with_reducible first | exact HB.out | apply below_alloc | apply pw_below_drewN | apply below_drew1) | exact HB.out)) hb); clear HB; have HB := n_; clear n_; have AR6 : Aside0 (Ar (Value.int .u8) 64 w6 g6 (List.replicate 8 (0))) := ⟨hbox⟩; clear hbox hb hg) | ((with_reducible refine gate_store (t := 60) (p := 5) rfl ?_); refine ar_store (by rfl) 60 _ _ (by rfl) g5 ((((List.replicate 64 (0))).map (Value.int .i64))) ((((List.replicate 64 (0))).map (Value.int .i64))) (by rfl) (by rfl) (by rfl) AR5.out (by rfl) (by skip; kernel_rfl) (by intro v hv; obtain ⟨x, _, rfl⟩ := List.mem_map.1 hv; rfl) ?_; intro w7 hst hk hB_; have n_ := Aside0.mk (ar_kept (by (with_reducible repeat (first | refine ar_alloc ?_ _ | refine ar_drewN ?_ _ | refine ar_drew ?_)); exact AR4.out) hk (fun hs_ => NE_g4_g5.out hs_)); clear AR4; have AR4 := n_; clear n_; have n_ := Aside0.mk (ar_kept (by (with_reducible repeat (first | refine ar_alloc ?_ _ | refine ar_drewN ?_ _ | refine ar_drew ?_)); exact AR6.out) hk (fun hs_ => (Ne.symm NE_g5_g6.out) hs_)); clear AR6; have AR6 := n_; clear n_; have n_ := Aside0.mk (hB_ _ _ (by repeat (first | (with_reducible first | exact HB.out | apply below_alloc | apply pw_below_drewN | apply below_drew1) | exact HB.out)) GE_g5.out); clear HB; have HB := n_; clear n_; clear AR5; have AR5 := Aside0.mk hst; clear hst hk hB_) | ((with_reducible refine gate_store (t := 64) (p := 6) rfl ?_); refine ar_store (by rfl) 64 _ _ (by rfl) g6 ((((List.replicate 8 (0))).map (Value.int .u8))) (((fillL n.toNat).map (Value.int .u8))) (by rfl) (by rfl) (by rfl) AR6.out (by simp [(fillL_in n.toNat (by have := HN.out; omega)).1]) (by rw [List.length_map, (fillL_in n.toNat (by have := HN.out; omega)).1]; kernel_rfl) (by intro v hv; obtain ⟨x, _, rfl⟩ := List.mem_map.1 hv; rfl) ?_; intro w8 hst hk hB_; have n_ := Aside0.mk (ar_kept (by (with_reducible repeat (first | refine ar_alloc ?_ _ | refine ar_drewN ?_ _ | refine ar_drew ?_)); exact AR4.out) hk (fun hs_ => NE_g4_g6.out hs_)); clear AR4; have AR4 := n_; clear n_; have n_ := Aside0.mk (ar_kept (by (with_reducible repeat (first | refine ar_alloc ?_ _ | refine ar_drewN ?_ _ | refine ar_drew ?_)); exact AR5.out) hk (fun hs_ => NE_g5_g6.out hs_)); clear AR5; have AR5 := n_; clear n_; have n_ := Aside0.mk (hB_ _ _ (by repeat (first | (with_reducible first | exact HB.out | apply below_alloc | apply pw_below_drewN | apply below_drew1) | exact HB.out)) GE_g6.out); clear HB; have HB := n_; clear n_; clear AR6; have AR6 := Aside0.mk hst; clear hst hk hB_))
 have n_ : Aside0 (Ar (Value.int .u8) 64 w8 g6 (cr.fill n.toNat)) := ⟨by rw [← fillL_cr]; exact AR6.out⟩
 clear AR6
 have AR6 := n_
 clear n_
 go_loopg [7] (l1.length + 1) (fun kq v7 wr => ∃ (i : Int) (q : Nat) (xs T : List Int), v7 = .int .i64 i ∧ Aside0 (q < kq) ∧ Aside0 ((q : Int) + i = (l1.length : Int) ∧ 0 ≤ i) ∧ Aside0 (cr.runT (l1.drop i.toNat) xs T = FT) ∧ Aside0 (cr.In8 xs) ∧ Aside0 (T.length = 64) ∧ Aside0 (Ar (Value.int .i64) 60 wr g4 (List.replicate 64 (0))) ∧ Aside0 (Ar (Value.int .i64) 60 wr g5 T) ∧ Aside0 (Ar (Value.int .u8) 64 wr g6 xs) ∧ Aside0 (Below w.heap.size w wr))
 case atStart => exact ⟨0, l1.length, cr.fill n.toNat, List.replicate 64 0, (by first | rfl | (simp; done) | (simp [*]; done)), ⟨by omega⟩, ⟨by omega⟩, HFT, ⟨cr.fill_in n.toNat (by have := HN.out; omega)⟩, ⟨by simp⟩, ⟨(by (with_reducible repeat (first | refine ar_alloc ?_ _ | refine ar_drewN ?_ _ | refine ar_drew ?_)); exact AR4.out)⟩, ⟨(by (with_reducible repeat (first | refine ar_alloc ?_ _ | refine ar_drewN ?_ _ | refine ar_drew ?_)); exact AR5.out)⟩, ⟨(by (with_reducible repeat (first | refine ar_alloc ?_ _ | refine ar_drewN ?_ _ | refine ar_drew ?_)); exact AR6.out)⟩, ⟨(by repeat (first | (with_reducible first | exact HB.out | apply below_alloc | apply pw_below_drewN | apply below_drew1) | exact HB.out))⟩⟩
 case round =>
  clear AR4 AR5 AR6 HB HFT
  obtain ⟨i, q, xs, T, rfl, HQ, HI, HA, HXS, HTL, AR4, AR5, AR6, HB⟩ := hrel
  cases gk with
  | zero => exact absurd HQ.out (Nat.not_lt_zero _)
  | succ k1_ =>
  cases q with
  | zero =>
   have cib : decide (i < (l1.length : Int)) = false := decide_eq_false (by have := HI.out; omega)
   have HF : Aside0 (T = FT) := ⟨by have h_ := HA.out; rw [List.drop_of_length_le (by have := HI.out; omega)] at h_; exact h_⟩
   have HFL : Aside0 (FT.length = 64) := ⟨by rw [← HF.out]; exact HTL.out⟩
   have n_ : Aside0 (Ar (Value.int .i64) 60 wr g5 FT) := ⟨by rw [← HF.out]; exact AR5.out⟩
   clear AR5
   have AR5 := n_
   clear n_
   go_wp2_with (first | ((with_reducible refine gate_dst (N := 65) rfl ?_); refine ar_load (by rfl) 60 _ (by rfl) g5 (((FT).map (Value.int .i64))) _ (by rfl) AR5.out hu rfl (by rw [List.length_map, HFL.out]; kernel_rfl) ?_) | ((with_reducible refine gate_store (t := 60) (p := 4) rfl ?_); refine ar_store (by rfl) 60 _ _ (by rfl) g4 ((((List.replicate 64 (0))).map (Value.int .i64))) (((FT).map (Value.int .i64))) (by rfl) (by rfl) (by rfl) AR4.out (by simp [HFL.out]) (by rw [List.length_map, HFL.out]; kernel_rfl) (by intro v hv; obtain ⟨x, _, rfl⟩ := List.mem_map.1 hv; rfl) ?_; intro w17 hst hk hB_; have n_ := Aside0.mk (ar_kept (by (with_reducible repeat (first | refine ar_alloc ?_ _ | refine ar_drewN ?_ _ | refine ar_drew ?_)); exact AR5.out) hk (fun hs_ => (Ne.symm NE_g4_g5.out) hs_)); clear AR5; have AR5 := n_; clear n_; have n_ := Aside0.mk (ar_kept (by (with_reducible repeat (first | refine ar_alloc ?_ _ | refine ar_drewN ?_ _ | refine ar_drew ?_)); exact AR6.out) hk (fun hs_ => (Ne.symm NE_g4_g6.out) hs_)); clear AR6; have AR6 := n_; clear n_; have n_ := Aside0.mk (hB_ _ _ (by repeat (first | (with_reducible first | exact HB.out | apply below_alloc | apply pw_below_drewN | apply below_drew1) | exact HB.out)) GE_g4.out); clear HB; have HB := n_; clear n_; clear AR4; have AR4 := Aside0.mk hst; clear hst hk hB_))
   refine bodyPost_ret (results_cell_row rfl _ _ g4 60 _ (0, 0) _ rfl AR4.out hu rfl (by rw [List.size_toArray, List.length_map, HFL.out]; kernel_rfl)) rfl ?_
   exact ⟨rfl, (by repeat (first | (with_reducible first | exact HB.out | apply below_alloc | apply pw_below_drewN | apply below_drew1) | exact HB.out))⟩
  | succ q =>
   have hi0 : 0 ≤ i := HI.out.2
   have hi1 : i < (l1.length : Int) := by have := HI.out; omega
   have cib : decide (i < (l1.length : Int)) = true := decide_eq_true hi1
   obtain ⟨ad, e1, hz⟩ := Kd.at_int HR1.out i hi0 hi1
   cases e1
   replace hz := (HB.out.cell (World.block_lt_of_cell? w _ hz)).trans hz
   have hkz := HG.out.at_ i hi0 hi1
   have HA1 : cr.runT (rd l1 i :: l1.drop (i + 1).toNat) xs T = FT := by rw [← cr.drop_cons l1 i hi0 hi1]; exact HA.out
   clear HA
   have ppi : (0 ≤ i) = True := eq_true hi0
   have qqi : (i < (l1.length : Int)) = True := eq_true hi1
   have HI0 := Aside0.mk hi0
   have HI1 := Aside0.mk hi1
   clear hi0 hi1
   obtain ⟨z, hzz⟩ : ∃ z, rd l1 i = z := ⟨_, rfl⟩
   rw [hzz] at hz hkz HA1
   clear hzz
   obtain ⟨kz, hK⟩ : ∃ x, cr.K z = x := ⟨_, rfl⟩
   obtain ⟨sz, hS⟩ : ∃ x, cr.sg z = x := ⟨_, rfl⟩
   rw [hK] at hkz
   have HKZ := Aside0.mk hkz
   have HK := Aside0.mk hK
   have HS := Aside0.mk hS
   have HA := Aside0.mk HA1
   clear hkz hK hS HA1
   go_upto_if 26 with (fail)
   go_cut [8, 9] (fun v8 v9 wc => v8 = .int .i64 kz ∧ v9 = .int .i64 sz ∧ Aside0 (Ar (Value.int .i64) 60 wc g4 (List.replicate 64 (0))) ∧ Aside0 (Ar (Value.int .i64) 60 wc g5 T) ∧ Aside0 (Ar (Value.int .u8) 64 wc g6 xs) ∧ Aside0 (Below w.heap.size w wc))
   case first =>
    by_cases e1 : z < 0
    ·have c1b : decide (z < 0) = true := decide_eq_true e1
     have E1 : Aside0 (wrap64 (-z) = kz) := ⟨by rw [← HK.out]; unfold cr.K; rw [if_pos e1]⟩
     have E2 : Aside0 (-1 = sz) := ⟨by rw [← HS.out]; unfold cr.sg; rw [if_pos e1]⟩
     clear e1
     (try rw [c1b])
     go_wp2
     go_meet
     case rel => exact ⟨by rw [← E1.out], by rw [← E2.out], ⟨(by (with_reducible repeat (first | refine ar_alloc ?_ _ | refine ar_drewN ?_ _ | refine ar_drew ?_)); exact AR4.out)⟩, ⟨(by (with_reducible repeat (first | refine ar_alloc ?_ _ | refine ar_drewN ?_ _ | refine ar_drew ?_)); exact AR5.out)⟩, ⟨(by (with_reducible repeat (first | refine ar_alloc ?_ _ | refine ar_drewN ?_ _ | refine ar_drew ?_)); exact AR6.out)⟩, ⟨(by repeat (first | (with_reducible first | exact HB.out | apply below_alloc | apply pw_below_drewN | apply below_drew1) | exact HB.out))⟩⟩
    ·have c1b : decide (z < 0) = false := decide_eq_false e1
     have E1 : Aside0 (z = kz) := ⟨by rw [← HK.out]; unfold cr.K; rw [if_neg e1]⟩
     have E2 : Aside0 (1 = sz) := ⟨by rw [← HS.out]; unfold cr.sg; rw [if_neg e1]⟩
     clear e1
     (try rw [c1b])
     go_wp2
     go_meet
     case rel => exact ⟨by rw [← E1.out], by rw [← E2.out], ⟨(by (with_reducible repeat (first | refine ar_alloc ?_ _ | refine ar_drewN ?_ _ | refine ar_drew ?_)); exact AR4.out)⟩, ⟨(by (with_reducible repeat (first | refine ar_alloc ?_ _ | refine ar_drewN ?_ _ | refine ar_drew ?_)); exact AR5.out)⟩, ⟨(by (with_reducible repeat (first | refine ar_alloc ?_ _ | refine ar_drewN ?_ _ | refine ar_drew ?_)); exact AR6.out)⟩, ⟨(by repeat (first | (with_reducible first | exact HB.out | apply below_alloc | apply pw_below_drewN | apply below_drew1) | exact HB.out))⟩⟩
   case rest =>
    clear AR4 AR5 AR6 HB hz
    obtain ⟨rfl, rfl, AR4, AR5, AR6, HB⟩ := hcut
    obtain ⟨k1, hk1⟩ : ∃ x, wrap64 (kz - 1) = x := ⟨_, rfl⟩
    have HK1 : Aside0 (k1 = kz - 1) := ⟨by rw [← hk1]; have := HKZ.out; unfold wrap64; omega⟩
    obtain ⟨x, hx⟩ : ∃ x, rd xs k1 = x := ⟨_, rfl⟩
    obtain ⟨y, hy⟩ : ∃ x, rd xs kz = x := ⟨_, rfl⟩
    have hx7 := HXS.out.at_ (x := k1) (by have := HKZ.out; have := HK1.out; omega) (by have := HKZ.out; have := HK1.out; omega)
    have hy7 := HXS.out.at_ (x := kz) (by have := HKZ.out; omega) (by have := HKZ.out; omega)
    rw [hx] at hx7
    rw [hy] at hy7
    have HX7 := Aside0.mk hx7
    have HY7 := Aside0.mk hy7
    have hk10 : 0 ≤ k1 := by have := HKZ.out; have := HK1.out; omega
    have hk11 : k1 < 8 := by have := HKZ.out; have := HK1.out; omega
    have hkz0 : 0 ≤ kz := by have := HKZ.out; omega
    have hkz1 : kz < 8 := by have := HKZ.out; omega
    obtain ⟨hz1, hf1⟩ := ar_rd 0 AR6.out k1 8 HXS.out.1 hk10 hk11
    obtain ⟨hz2, hf2⟩ := ar_rd 0 AR6.out kz 8 HXS.out.1 hkz0 hkz1
    replace hz1 : wc.cell? ⟨g6, k1.toNat, none⟩ = some (.int .u8 x) := by rw [← hx]; exact hz1
    replace hz2 : wc.cell? ⟨g6, kz.toNat, none⟩ = some (.int .u8 y) := by rw [← hy]; exact hz2
    have pk0 : (0 ≤ k1) = True := eq_true hk10
    have pk1 : (k1 < 8) = True := eq_true hk11
    have pk2 : (0 ≤ kz) = True := eq_true hkz0
    have pk3 : (kz < 8) = True := eq_true hkz1
    have HXE := Aside0.mk hx
    have HYE := Aside0.mk hy
    clear hk10 hk11 hkz0 hkz1 hx hy hx7 hy7
    try go_wp2
    go_quiet (fail)
    try go_wp2
    (first | (rw [drewN_self wc]; generalize hq_ : World.drewN wc _ = w9) | (rw [drew_self wc]; generalize hq1_ : World.drew wc = w9; have hq_ : World.drewN wc 1 = w9 := hq1_; clear hq1_) | (rw [show wc = World.drewN wc 0 from rfl]; generalize hq_ : World.drewN wc 0 = w9))
    have n_ := Aside0.mk (ar_at hq_ AR4.out); clear AR4; have AR4 := n_; clear n_
    have n_ := Aside0.mk (ar_at hq_ AR5.out); clear AR5; have AR5 := n_; clear n_
    have n_ := Aside0.mk (ar_at hq_ AR6.out); clear AR6; have AR6 := n_; clear n_
    have n_ := Aside0.mk (ar_below_at hq_ HB.out); clear HB; have HB := n_; clear n_
    clear hq_
    clear hz1 hf1 hz2 hf2
    have px0 : (0 ≤ x) = True := eq_true HX7.out.1
    have px1 : (x < 8) = True := eq_true (by have := HX7.out; omega)
    have py0 : (0 ≤ y) = True := eq_true HY7.out.1
    have py1 : (y < 8) = True := eq_true (by have := HY7.out; omega)
    have n_ := Aside0.mk (ar_drew AR4.out); clear AR4; have AR4 := n_; clear n_
    have n_ := Aside0.mk (ar_drew AR5.out); clear AR5; have AR5 := n_; clear n_
    have n_ := Aside0.mk (ar_drew AR6.out); clear AR6; have AR6 := n_; clear n_
    have n_ := Aside0.mk (below_drew1 HB.out); clear HB; have HB := n_; clear n_
    obtain ⟨hzt, hft⟩ := ar_rdN 0 AR5.out (x.toNat * 8 + y.toNat) (by rw [HTL.out]; have := HX7.out; have := HY7.out; omega)
    obtain ⟨tv, htv⟩ : ∃ v, (T).getD (x.toNat * 8 + y.toNat) 0 = v := ⟨_, rfl⟩
    rw [htv] at hzt
    refine start_ (n := 12) (S := fun w' => w'.cell? ⟨g5, (x.toNat * 8 + y.toNat), none⟩ = some (.int .i64 tv) ∧ w'.frozen? ⟨g5, (x.toNat * 8 + y.toNat), none⟩ = false) (ds := [11]) #[false, false, false, false, false, false, false, false, false, false, false, false] (by kernel_rfl) rfl rfl ⟨hzt, hft⟩ (fun hHeld => ?_)
    refine with_tabW spec_l01Crossings.tab10 spec_l01Crossings.bits10 (fun HT_ HW_ => ?_)
    generalize w9.drew = w10 at AR4 AR5 AR6 HB hzt hft hHeld ⊢
    refine pure_ (i := 0) (N := some 36) (v := ?_) (a' := ?_) #[true, false, false, false, false, false, false, false, false, false, false, false] rfl rfl (any_of HT_.out (by kernel_rfl)) (fun _ _ _ h => h) (Or.inl ⟨by rfl, ?_⟩) ?_ ?_
    rotate_left
    ·intro w'
     go_simp
     with_reducible rfl
    rotate_left
    ·simp only [Act.put, List.setIfInBounds_toArray, List.set_cons_zero, List.set_cons_succ, i64_w, i32_w]
     rfl
    refine pure_ (i := 1) (N := some 37) (v := ?_) (a' := ?_) #[true, true, false, false, false, false, false, false, false, false, false, false] rfl rfl (any_of HT_.out (by kernel_rfl)) (fun _ _ _ h => h) (Or.inl ⟨by rfl, ?_⟩) ?_ ?_
    rotate_left
    ·intro w'
     go_simp
     with_reducible rfl
    rotate_left
    ·simp only [Act.put, List.setIfInBounds_toArray, List.set_cons_zero, List.set_cons_succ, i64_w, i32_w]
     rfl
    refine pure_ (i := 2) (N := some 38) (v := ?_) (a' := ?_) #[true, true, true, false, false, false, false, false, false, false, false, false] rfl rfl (any_of HT_.out (by kernel_rfl)) (fun _ _ _ h => h) (Or.inl ⟨by rfl, ?_⟩) ?_ ?_
    rotate_left
    ·intro w'
     go_simp
     with_reducible rfl
    rotate_left
    ·simp only [Act.put, List.setIfInBounds_toArray, List.set_cons_zero, List.set_cons_succ, i64_w, i32_w]
     rfl
    refine pure_ (i := 3) (N := some 39) (v := ?_) (a' := ?_) #[true, true, true, true, false, false, false, false, false, false, false, false] rfl rfl (any_of HT_.out (by kernel_rfl)) (fun _ _ _ h => h) (Or.inl ⟨by rfl, ?_⟩) ?_ ?_
    rotate_left
    ·intro w'
     go_simp
     with_reducible rfl
    rotate_left
    ·simp only [Act.put, List.setIfInBounds_toArray, List.set_cons_zero, List.set_cons_succ, i64_w, i32_w]
     rfl
    refine pure_ (i := 4) (N := some 40) (v := ?_) (a' := ?_) #[true, true, true, true, true, false, false, false, false, false, false, false] rfl rfl (any_of HT_.out (by kernel_rfl)) (fun _ _ _ h => h) (Or.inl ⟨by rfl, ?_⟩) ?_ ?_
    rotate_left
    ·intro w'
     go_simp
     with_reducible rfl
    rotate_left
    ·simp only [Act.put, List.setIfInBounds_toArray, List.set_cons_zero, List.set_cons_succ, i64_w, i32_w]
     rfl
    refine pure_ (i := 5) (N := some 41) (v := ?_) (a' := ?_) #[true, true, true, true, true, true, false, false, false, false, false, false] rfl rfl (any_of HT_.out (by kernel_rfl)) (fun _ _ _ h => h) (Or.inl ⟨by rfl, ?_⟩) ?_ ?_
    rotate_left
    ·intro w'
     go_simp
     with_reducible rfl
    rotate_left
    ·simp only [Act.put, List.setIfInBounds_toArray, List.set_cons_zero, List.set_cons_succ, i64_w, i32_w]
     rfl
    refine pure_ (i := 7) (N := some 43) (v := ?_) (a' := ?_) #[true, true, true, true, true, true, false, true, false, false, false, false] rfl rfl (any_of HT_.out (by kernel_rfl)) (fun _ _ _ h => h) (Or.inl ⟨by rfl, ?_⟩) ?_ ?_
    rotate_left
    ·intro w'
     go_simp
     with_reducible rfl
    rotate_left
    ·simp only [Act.put, List.setIfInBounds_toArray, List.set_cons_zero, List.set_cons_succ, i64_w, i32_w]
     rfl
    refine pure_ (i := 9) (N := some 45) (v := ?_) (a' := ?_) #[true, true, true, true, true, true, false, true, false, true, false, false] rfl rfl (any_of HT_.out (by kernel_rfl)) (fun _ _ _ h => h) (Or.inl ⟨by rfl, ?_⟩) ?_ ?_
    rotate_left
    ·intro w'
     go_simp
     with_reducible rfl
    rotate_left
    ·simp only [Act.put, List.setIfInBounds_toArray, List.set_cons_zero, List.set_cons_succ, i64_w, i32_w]
     rfl
    refine take_ (i := 6) (N := some 42) (v := ?_) (a' := ?_) #[true, true, true, true, true, true, true, true, false, true, false, false] rfl rfl (take_ofW HT_.out HW_.out (by kernel_rfl)) (fun _ _ _ h => h) (Or.inl ⟨by rfl, ?_⟩) hHeld ?_ ?_
    rotate_left
    ·rintro w' ⟨s0, s1⟩
     go_simp
     with_reducible rfl
    rotate_left
    ·simp only [Act.put, List.setIfInBounds_toArray, List.set_cons_zero, List.set_cons_succ, i64_w, i32_w]
     rfl
    refine pure_ (i := 8) (N := some 44) (v := ?_) (a' := ?_) #[true, true, true, true, true, true, true, true, true, true, false, false] rfl rfl (any_of HT_.out (by kernel_rfl)) (fun _ _ _ h => h) (Or.inl ⟨by rfl, ?_⟩) ?_ ?_
    rotate_left
    ·intro w'
     go_simp
     with_reducible rfl
    rotate_left
    ·simp only [Act.put, List.setIfInBounds_toArray, List.set_cons_zero, List.set_cons_succ, i64_w, i32_w]
     rfl
    refine pure_ (i := 10) (N := some 46) (v := ?_) (a' := ?_) #[true, true, true, true, true, true, true, true, true, true, true, false] rfl rfl (any_of HT_.out (by kernel_rfl)) (fun _ _ _ h => h) (Or.inl ⟨by rfl, ?_⟩) ?_ ?_
    rotate_left
    ·intro w'
     go_simp
     with_reducible rfl
    rotate_left
    ·simp only [Act.put, List.setIfInBounds_toArray, List.set_cons_zero, List.set_cons_succ, i64_w, i32_w]
     rfl
    refine last_ (i := 11) (N := none) #[true, true, true, true, true, true, true, true, true, true, true, true] rfl rfl (one_of HT_.out (by kernel_rfl)) (by decide) (fun K hK => ?_)
    refine skip_ (w1 := ?_) (by rfl) rfl ?_ ?_
    rotate_left
    ·first | (go_simp; done) | (go_simp; rfl)
    refine hK.out _ _ ?_
    clear hK K
    refine done_ (done_of HT_.out (by kernel_rfl)) ?_
    have n0_ : Aside0 (Ar (Value.int .i64) 60 (World.setCell w10 ⟨g5, (x.toNat * 8 + y.toNat), none⟩ (.int .i64 (wrap64 (tv + sz)))) g5 (cr.ad (T) x y sz)) := ⟨by rw [show cr.ad (T) x y sz = (T).set (x.toNat * 8 + y.toNat) (wrap64 ((T).getD (x.toNat * 8 + y.toNat) 0 + sz)) from rfl, htv]; exact ar_put AR5.out (x.toNat * 8 + y.toNat) (wrap64 (tv + sz)) rfl⟩
    have hk_ : Kept w10 (World.setCell w10 ⟨g5, (x.toNat * 8 + y.toNat), none⟩ (.int .i64 (wrap64 (tv + sz)))) (fun k_ => k_ = g5) := Kept.setCell (S := fun k_ => k_ = g5) (Kept.refl _ _) (p := ⟨g5, _, none⟩) (Or.inl rfl) _
    have n1_ := Aside0.mk (ar_kept AR4.out hk_ (fun h_ => NE_g4_g5.out h_))
    have n2_ := Aside0.mk (ar_kept AR6.out hk_ (fun h_ => NE_g5_g6.out h_.symm))
    have n3_ : Aside0 (Below w.heap.size w (World.setCell w10 ⟨g5, (x.toNat * 8 + y.toNat), none⟩ (.int .i64 (wrap64 (tv + sz))))) := ⟨below_set HB.out GE_g5.out⟩
    clear hk_ AR4 AR5 AR6 HB hzt hft hHeld HT_ HW_
    generalize (World.setCell w10 ⟨g5, (x.toNat * 8 + y.toNat), none⟩ (.int .i64 (wrap64 (tv + sz)))) = w11 at n0_ n1_ n2_ n3_ ⊢
    have AR5 := n0_
    have AR4 := n1_
    have AR6 := n2_
    have HB := n3_
    clear n0_ n1_ n2_ n3_ htv
    have n_ : Aside0 ((cr.ad (T) x y sz).length = 64) := ⟨by rw [cr.ad_len]; exact HTL.out⟩
    clear HTL
    have HTL := n_
    clear n_
    try go_wp2
    (first | (rw [drewN_self w11]; generalize hq_ : World.drewN w11 _ = w12) | (rw [drew_self w11]; generalize hq1_ : World.drew w11 = w12; have hq_ : World.drewN w11 1 = w12 := hq1_; clear hq1_) | (rw [show w11 = World.drewN w11 0 from rfl]; generalize hq_ : World.drewN w11 0 = w12))
    have n_ := Aside0.mk (ar_at hq_ AR4.out); clear AR4; have AR4 := n_; clear n_
    have n_ := Aside0.mk (ar_at hq_ AR5.out); clear AR5; have AR5 := n_; clear n_
    have n_ := Aside0.mk (ar_at hq_ AR6.out); clear AR6; have AR6 := n_; clear n_
    have n_ := Aside0.mk (ar_below_at hq_ HB.out); clear HB; have HB := n_; clear n_
    clear hq_
    have n_ := Aside0.mk (ar_drew AR4.out); clear AR4; have AR4 := n_; clear n_
    have n_ := Aside0.mk (ar_drew AR5.out); clear AR5; have AR5 := n_; clear n_
    have n_ := Aside0.mk (ar_drew AR6.out); clear AR6; have AR6 := n_; clear n_
    have n_ := Aside0.mk (below_drew1 HB.out); clear HB; have HB := n_; clear n_
    obtain ⟨hzt, hft⟩ := ar_rdN 0 AR5.out (y.toNat * 8 + x.toNat) (by rw [HTL.out]; have := HX7.out; have := HY7.out; omega)
    obtain ⟨tv, htv⟩ : ∃ v, (cr.ad T x y sz).getD (y.toNat * 8 + x.toNat) 0 = v := ⟨_, rfl⟩
    rw [htv] at hzt
    refine start_ (n := 12) (S := fun w' => w'.cell? ⟨g5, (y.toNat * 8 + x.toNat), none⟩ = some (.int .i64 tv) ∧ w'.frozen? ⟨g5, (y.toNat * 8 + x.toNat), none⟩ = false) (ds := [11]) #[false, false, false, false, false, false, false, false, false, false, false, false] (by kernel_rfl) rfl rfl ⟨hzt, hft⟩ (fun hHeld => ?_)
    refine with_tabW spec_l01Crossings.tab11 spec_l01Crossings.bits11 (fun HT_ HW_ => ?_)
    generalize w12.drew = w13 at AR4 AR5 AR6 HB hzt hft hHeld ⊢
    refine pure_ (i := 0) (N := some 47) (v := ?_) (a' := ?_) #[true, false, false, false, false, false, false, false, false, false, false, false] rfl rfl (any_of HT_.out (by kernel_rfl)) (fun _ _ _ h => h) (Or.inl ⟨by rfl, ?_⟩) ?_ ?_
    rotate_left
    ·intro w'
     go_simp
     with_reducible rfl
    rotate_left
    ·simp only [Act.put, List.setIfInBounds_toArray, List.set_cons_zero, List.set_cons_succ, i64_w, i32_w]
     rfl
    refine pure_ (i := 1) (N := some 48) (v := ?_) (a' := ?_) #[true, true, false, false, false, false, false, false, false, false, false, false] rfl rfl (any_of HT_.out (by kernel_rfl)) (fun _ _ _ h => h) (Or.inl ⟨by rfl, ?_⟩) ?_ ?_
    rotate_left
    ·intro w'
     go_simp
     with_reducible rfl
    rotate_left
    ·simp only [Act.put, List.setIfInBounds_toArray, List.set_cons_zero, List.set_cons_succ, i64_w, i32_w]
     rfl
    refine pure_ (i := 2) (N := some 49) (v := ?_) (a' := ?_) #[true, true, true, false, false, false, false, false, false, false, false, false] rfl rfl (any_of HT_.out (by kernel_rfl)) (fun _ _ _ h => h) (Or.inl ⟨by rfl, ?_⟩) ?_ ?_
    rotate_left
    ·intro w'
     go_simp
     with_reducible rfl
    rotate_left
    ·simp only [Act.put, List.setIfInBounds_toArray, List.set_cons_zero, List.set_cons_succ, i64_w, i32_w]
     rfl
    refine pure_ (i := 3) (N := some 50) (v := ?_) (a' := ?_) #[true, true, true, true, false, false, false, false, false, false, false, false] rfl rfl (any_of HT_.out (by kernel_rfl)) (fun _ _ _ h => h) (Or.inl ⟨by rfl, ?_⟩) ?_ ?_
    rotate_left
    ·intro w'
     go_simp
     with_reducible rfl
    rotate_left
    ·simp only [Act.put, List.setIfInBounds_toArray, List.set_cons_zero, List.set_cons_succ, i64_w, i32_w]
     rfl
    refine pure_ (i := 4) (N := some 51) (v := ?_) (a' := ?_) #[true, true, true, true, true, false, false, false, false, false, false, false] rfl rfl (any_of HT_.out (by kernel_rfl)) (fun _ _ _ h => h) (Or.inl ⟨by rfl, ?_⟩) ?_ ?_
    rotate_left
    ·intro w'
     go_simp
     with_reducible rfl
    rotate_left
    ·simp only [Act.put, List.setIfInBounds_toArray, List.set_cons_zero, List.set_cons_succ, i64_w, i32_w]
     rfl
    refine pure_ (i := 5) (N := some 52) (v := ?_) (a' := ?_) #[true, true, true, true, true, true, false, false, false, false, false, false] rfl rfl (any_of HT_.out (by kernel_rfl)) (fun _ _ _ h => h) (Or.inl ⟨by rfl, ?_⟩) ?_ ?_
    rotate_left
    ·intro w'
     go_simp
     with_reducible rfl
    rotate_left
    ·simp only [Act.put, List.setIfInBounds_toArray, List.set_cons_zero, List.set_cons_succ, i64_w, i32_w]
     rfl
    refine pure_ (i := 7) (N := some 54) (v := ?_) (a' := ?_) #[true, true, true, true, true, true, false, true, false, false, false, false] rfl rfl (any_of HT_.out (by kernel_rfl)) (fun _ _ _ h => h) (Or.inl ⟨by rfl, ?_⟩) ?_ ?_
    rotate_left
    ·intro w'
     go_simp
     with_reducible rfl
    rotate_left
    ·simp only [Act.put, List.setIfInBounds_toArray, List.set_cons_zero, List.set_cons_succ, i64_w, i32_w]
     rfl
    refine pure_ (i := 9) (N := some 56) (v := ?_) (a' := ?_) #[true, true, true, true, true, true, false, true, false, true, false, false] rfl rfl (any_of HT_.out (by kernel_rfl)) (fun _ _ _ h => h) (Or.inl ⟨by rfl, ?_⟩) ?_ ?_
    rotate_left
    ·intro w'
     go_simp
     with_reducible rfl
    rotate_left
    ·simp only [Act.put, List.setIfInBounds_toArray, List.set_cons_zero, List.set_cons_succ, i64_w, i32_w]
     rfl
    refine take_ (i := 6) (N := some 53) (v := ?_) (a' := ?_) #[true, true, true, true, true, true, true, true, false, true, false, false] rfl rfl (take_ofW HT_.out HW_.out (by kernel_rfl)) (fun _ _ _ h => h) (Or.inl ⟨by rfl, ?_⟩) hHeld ?_ ?_
    rotate_left
    ·rintro w' ⟨s0, s1⟩
     go_simp
     with_reducible rfl
    rotate_left
    ·simp only [Act.put, List.setIfInBounds_toArray, List.set_cons_zero, List.set_cons_succ, i64_w, i32_w]
     rfl
    refine pure_ (i := 8) (N := some 55) (v := ?_) (a' := ?_) #[true, true, true, true, true, true, true, true, true, true, false, false] rfl rfl (any_of HT_.out (by kernel_rfl)) (fun _ _ _ h => h) (Or.inl ⟨by rfl, ?_⟩) ?_ ?_
    rotate_left
    ·intro w'
     go_simp
     with_reducible rfl
    rotate_left
    ·simp only [Act.put, List.setIfInBounds_toArray, List.set_cons_zero, List.set_cons_succ, i64_w, i32_w]
     rfl
    refine pure_ (i := 10) (N := some 57) (v := ?_) (a' := ?_) #[true, true, true, true, true, true, true, true, true, true, true, false] rfl rfl (any_of HT_.out (by kernel_rfl)) (fun _ _ _ h => h) (Or.inl ⟨by rfl, ?_⟩) ?_ ?_
    rotate_left
    ·intro w'
     go_simp
     with_reducible rfl
    rotate_left
    ·simp only [Act.put, List.setIfInBounds_toArray, List.set_cons_zero, List.set_cons_succ, i64_w, i32_w]
     rfl
    refine last_ (i := 11) (N := none) #[true, true, true, true, true, true, true, true, true, true, true, true] rfl rfl (one_of HT_.out (by kernel_rfl)) (by decide) (fun K hK => ?_)
    refine skip_ (w1 := ?_) (by rfl) rfl ?_ ?_
    rotate_left
    ·first | (go_simp; done) | (go_simp; rfl)
    refine hK.out _ _ ?_
    clear hK K
    refine done_ (done_of HT_.out (by kernel_rfl)) ?_
    have n0_ : Aside0 (Ar (Value.int .i64) 60 (World.setCell w13 ⟨g5, (y.toNat * 8 + x.toNat), none⟩ (.int .i64 (wrap64 (tv + sz)))) g5 (cr.ad (cr.ad T x y sz) y x sz)) := ⟨by rw [show cr.ad (cr.ad T x y sz) y x sz = (cr.ad T x y sz).set (y.toNat * 8 + x.toNat) (wrap64 ((cr.ad T x y sz).getD (y.toNat * 8 + x.toNat) 0 + sz)) from rfl, htv]; exact ar_put AR5.out (y.toNat * 8 + x.toNat) (wrap64 (tv + sz)) rfl⟩
    have hk_ : Kept w13 (World.setCell w13 ⟨g5, (y.toNat * 8 + x.toNat), none⟩ (.int .i64 (wrap64 (tv + sz)))) (fun k_ => k_ = g5) := Kept.setCell (S := fun k_ => k_ = g5) (Kept.refl _ _) (p := ⟨g5, _, none⟩) (Or.inl rfl) _
    have n1_ := Aside0.mk (ar_kept AR4.out hk_ (fun h_ => NE_g4_g5.out h_))
    have n2_ := Aside0.mk (ar_kept AR6.out hk_ (fun h_ => NE_g5_g6.out h_.symm))
    have n3_ : Aside0 (Below w.heap.size w (World.setCell w13 ⟨g5, (y.toNat * 8 + x.toNat), none⟩ (.int .i64 (wrap64 (tv + sz))))) := ⟨below_set HB.out GE_g5.out⟩
    clear hk_ AR4 AR5 AR6 HB hzt hft hHeld HT_ HW_
    generalize (World.setCell w13 ⟨g5, (y.toNat * 8 + x.toNat), none⟩ (.int .i64 (wrap64 (tv + sz)))) = w14 at n0_ n1_ n2_ n3_ ⊢
    have AR5 := n0_
    have AR4 := n1_
    have AR6 := n2_
    have HB := n3_
    clear n0_ n1_ n2_ n3_ htv
    have n_ : Aside0 ((cr.ad (cr.ad T x y sz) y x sz).length = 64) := ⟨by rw [cr.ad_len]; exact HTL.out⟩
    clear HTL
    have HTL := n_
    clear n_
    skip
    (first | (rw [drewN_self w14]; generalize hq_ : World.drewN w14 _ = w15) | (rw [drew_self w14]; generalize hq1_ : World.drew w14 = w15; have hq_ : World.drewN w14 1 = w15 := hq1_; clear hq1_) | (rw [show w14 = World.drewN w14 0 from rfl]; generalize hq_ : World.drewN w14 0 = w15))
    have n_ := Aside0.mk (ar_at hq_ AR4.out); clear AR4; have AR4 := n_; clear n_
    have n_ := Aside0.mk (ar_at hq_ AR5.out); clear AR5; have AR5 := n_; clear n_
    have n_ := Aside0.mk (ar_at hq_ AR6.out); clear AR6; have AR6 := n_; clear n_
    have n_ := Aside0.mk (ar_below_at hq_ HB.out); clear HB; have HB := n_; clear n_
    clear hq_
    have hk10 : 0 ≤ k1 := by have := HKZ.out; have := HK1.out; omega
    have hk11 : k1 < 8 := by have := HKZ.out; have := HK1.out; omega
    have hkz0 : 0 ≤ kz := by have := HKZ.out; omega
    have hkz1 : kz < 8 := by have := HKZ.out; omega
    obtain ⟨hz1, hf1⟩ := ar_rd 0 AR6.out k1 8 HXS.out.1 hk10 hk11
    have AR7 := Aside0.mk (ar_put (W1 := World.setCell w15 ⟨g6, k1.toNat, none⟩ (.int .u8 y)) AR6.out k1.toNat y rfl)
    obtain ⟨hz2, hf2⟩ := ar_rd 0 AR7.out kz 8 (by rw [List.length_set]; exact HXS.out.1) hkz0 hkz1
    have HK10 := Aside0.mk (And.intro hk10 hkz0)
    clear hk10 hk11 hkz0 hkz1
    go_wp2
    have n0_ : Aside0 (Ar (Value.int .u8) 64 ((World.setCell w15 ⟨g6, k1.toNat, none⟩ (.int .u8 y)).setCell ⟨g6, kz.toNat, none⟩ (.int .u8 x)) g6 (cr.sw xs z)) := ⟨by have h_ := ar_put (W1 := ((World.setCell w15 ⟨g6, k1.toNat, none⟩ (.int .u8 y)).setCell ⟨g6, kz.toNat, none⟩ (.int .u8 x))) AR7.out kz.toNat x rfl; unfold cr.sw; rw [HK.out, ← HK1.out, HXE.out, HYE.out]; exact h_⟩
    have hk_ : Kept w15 ((World.setCell w15 ⟨g6, k1.toNat, none⟩ (.int .u8 y)).setCell ⟨g6, kz.toNat, none⟩ (.int .u8 x)) (fun k_ => k_ = g6) := Kept.setCell (S := fun k_ => k_ = g6) (Kept.setCell (S := fun k_ => k_ = g6) (Kept.refl _ _) (p := ⟨g6, _, none⟩) (Or.inl rfl) _) (p := ⟨g6, _, none⟩) (Or.inl rfl) _
    have n1_ := Aside0.mk (ar_kept AR4.out hk_ (fun h_ => NE_g4_g6.out h_))
    have n2_ := Aside0.mk (ar_kept AR5.out hk_ (fun h_ => NE_g5_g6.out h_))
    have n3_ : Aside0 (Below w.heap.size w ((World.setCell w15 ⟨g6, k1.toNat, none⟩ (.int .u8 y)).setCell ⟨g6, kz.toNat, none⟩ (.int .u8 x))) := ⟨below_set (below_set HB.out GE_g6.out) GE_g6.out⟩
    clear hk_ AR4 AR5 AR6 AR7 HB hz1 hf1 hz2 hf2
    generalize ((World.setCell w15 ⟨g6, k1.toNat, none⟩ (.int .u8 y)).setCell ⟨g6, kz.toNat, none⟩ (.int .u8 x)) = w16 at n0_ n1_ n2_ n3_ ⊢
    have AR6 := n0_
    have AR4 := n1_
    have AR5 := n2_
    have HB := n3_
    clear n0_ n1_ n2_ n3_
    go_roundg k1_
    case measure => omega
    case rel =>
     have HW := Aside0.mk (show wrap64 (i + 1) = i + 1 by have := HI0.out; have := HI1.out; have := HG.out.1; unfold wrap64; omega)
     have HST : Aside0 (cr.ad (cr.ad T x y sz) y x sz = cr.stT xs T z) := ⟨by unfold cr.stT; rw [HK.out, HS.out, ← HK1.out, HXE.out, HYE.out]⟩
     exact ⟨wrap64 (i + 1), q, cr.sw xs z, cr.stT xs T z, (by first | rfl | (simp; done) | (simp [*]; done)), ⟨by have := HQ.out; omega⟩, ⟨by have := HI.out; rw [HW.out]; omega⟩, ⟨by rw [HW.out]; exact HA.out⟩, ⟨HXS.out.sw (by rw [HK.out]; exact HKZ.out)⟩, ⟨by rw [← HST.out]; exact HTL.out⟩, ⟨(by (with_reducible repeat (first | refine ar_alloc ?_ _ | refine ar_drewN ?_ _ | refine ar_drew ?_)); exact AR4.out)⟩, ⟨by rw [← HST.out]; exact (by (with_reducible repeat (first | refine ar_alloc ?_ _ | refine ar_drewN ?_ _ | refine ar_drew ?_)); exact AR5.out)⟩, ⟨(by (with_reducible repeat (first | refine ar_alloc ?_ _ | refine ar_drewN ?_ _ | refine ar_drew ?_)); exact AR6.out)⟩, ⟨(by repeat (first | (with_reducible first | exact HB.out | apply below_alloc | apply pw_below_drewN | apply below_drew1) | exact HB.out))⟩⟩


/-! ### spec_l01Perm: function 73 -/
theorem sw_in {xs : List Int} (h : In8 xs) {x : Int} (hg : GenK x) : In8 (sw xs x) := by
 unfold GenK at hg
 unfold sw
 generalize mx x (wrap64 (-x)) = k at *
 have hj : wrap64 (k - 1) = k - 1 := by unfold wrap64; omega
 simp only [hj]
 exact (h.set _ (h.at_ (by omega) (by omega))).set _ (h.at_ (by omega) (by omega))
theorem strands_in {n : Int} (hn : 0 ≤ n ∧ n ≤ 8) {l : List Int} (hg : ∀ x ∈ l, GenK x) : In8 (l.foldl sw (fillL n.toNat)) := by
 have h0 := fillL_in n.toNat (by omega)
 generalize fillL n.toNat = xs at h0
 induction l generalizing xs with
 | nil => exact h0
 | cons x l ih => exact ih (fun y hy => hg y (by simp [hy])) _ (sw_in h0 (hg x (by simp)))
def permGo (s : List Int) : Nat → List Int
 | 0 => a8
 | k + 1 => (permGo s k).set (rd s (k : Int)).toNat (k : Int)
theorem permGo_in (s : List Int) : ∀ k, k ≤ 8 → In8 (permGo s k)
 | 0, _ => a8_in
 | k + 1, h => (permGo_in s k (by omega)).set _ (by omega)
def permL (n : Int) (l : List Int) : List Int := permGo (l.foldl sw (fillL n.toNat)) n.toNat
set_option maxHeartbeats 8000000 in
set_option maxRecDepth 100000 in
theorem perm_calls (n : Int) (hn : 0 ≤ n ∧ n ≤ 8) (A1 : Option Addr) (c1 : Nat) (l1 : List Int) (hg1 : ∀ x ∈ l1, GenK x) (w : World) (hr1 : Kd.C (Kd.int .i64) w A1 l1.length l1) (hc1 : l1.length ≤ c1) :
  Calls Try.prog 73 #[.int .i64 n, .slice A1 l1.length c1] w fun e w' => e = .returned (.agg ((permL n l1).map (Value.int .u8)).toArray) ∧ Below w.heap.size w w' := by
 have hu := Try.underlying64
 have hu5 := Try.underlying5
 have HSI := Aside0.mk (strands_in hn hg1)
 have HR1 := Aside0.mk hr1
 have HC1 := Aside0.mk hc1
 have HGN := Aside0.mk hg1
 have HN := Aside0.mk hn
 clear hr1 hc1 hg1 hn
 unfold permL
 obtain ⟨x0, x1, x2, x3, x4, x5, x6, x7, ex⟩ := len8 HSI.out.1
 have HEX := Aside0.mk ex
 clear ex
 have HB := Aside0.mk (Below.refl w.heap.size w)
 go_enter Try.func73, Try.ntmps73
 go_wp2_with (first | ((with_reducible refine gate_dst (N := 4) rfl ?_); refine box_event ?hg (N := 4) ?hd (cs := #[.int .u8 0, .int .u8 0, .int .u8 0, .int .u8 0, .int .u8 0, .int .u8 0, .int .u8 0, .int .u8 0]) (t := 64) ?hr ?_; (case hd => rfl); (case hg => rfl); (case hr => first | (go_simp; done) | (go_simp; rfl)); intro gb4 hg w4 hbox hb; have hge : w.heap.size ≤ gb4 := (by rw [hg]; exact below_size (by repeat (first | (with_reducible first | exact HB.out | apply below_alloc | apply pw_below_drewN | apply below_drew1) | exact HB.out))); have GEgb4 := Aside0.mk hge; clear hge; have hs := below_step (by repeat (first | (with_reducible first | exact HB.out | apply below_alloc | apply pw_below_drewN | apply below_drew1) | exact HB.out)) hb; clear HB; have HB := Aside0.mk hs; have BKgb4 := Aside0.mk hbox; clear hbox hb hs hg; (try clear hzgb4_0 hfgb4_0 hzgb4_1 hfgb4_1 hzgb4_2 hfgb4_2 hzgb4_3 hfgb4_3 hzgb4_4 hfgb4_4 hzgb4_5 hfgb4_5 hzgb4_6 hfgb4_6 hzgb4_7 hfgb4_7); have hzgb4_0 := (blk_cell BKgb4.out 0).trans rfl; have hfgb4_0 := blk_frozen BKgb4.out 0; have hzgb4_1 := (blk_cell BKgb4.out 1).trans rfl; have hfgb4_1 := blk_frozen BKgb4.out 1; have hzgb4_2 := (blk_cell BKgb4.out 2).trans rfl; have hfgb4_2 := blk_frozen BKgb4.out 2; have hzgb4_3 := (blk_cell BKgb4.out 3).trans rfl; have hfgb4_3 := blk_frozen BKgb4.out 3; have hzgb4_4 := (blk_cell BKgb4.out 4).trans rfl; have hfgb4_4 := blk_frozen BKgb4.out 4; have hzgb4_5 := (blk_cell BKgb4.out 5).trans rfl; have hfgb4_5 := blk_frozen BKgb4.out 5; have hzgb4_6 := (blk_cell BKgb4.out 6).trans rfl; have hfgb4_6 := blk_frozen BKgb4.out 6; have hzgb4_7 := (blk_cell BKgb4.out 7).trans rfl; have hfgb4_7 := blk_frozen BKgb4.out 7) | (go_at_call 94; refine (strands_calls n HN.out _ _ l1 HGN.out _ ?side1 HC1.out).mono ?_; (case side1 => repeat (first | exact (Kd.C_below HR1.out HB.out) | (with_reducible refine Kd.C_alloc ?_ _) | (with_reducible refine Kd.C_drewN ?_ _) | (with_reducible refine Kd.C_drew ?_))); rintro e w5 ⟨he, hb⟩; replace he : e = .returned (.agg #[.int .u8 x0, .int .u8 x1, .int .u8 x2, .int .u8 x3, .int .u8 x4, .int .u8 x5, .int .u8 x6, .int .u8 x7]) := he.trans (by rw [HEX.out]; rfl); subst he; have hs := below_step (by repeat (first | (with_reducible first | exact HB.out | apply below_alloc | apply pw_below_drewN | apply below_drew1) | exact HB.out)) hb; have n_ := Aside0.mk (blk_below BKgb4.out hb); clear BKgb4; have BKgb4 := n_; clear n_; clear HB; have HB := Aside0.mk hs; clear hs hb; (try clear hzgb4_0 hfgb4_0 hzgb4_1 hfgb4_1 hzgb4_2 hfgb4_2 hzgb4_3 hfgb4_3 hzgb4_4 hfgb4_4 hzgb4_5 hfgb4_5 hzgb4_6 hfgb4_6 hzgb4_7 hfgb4_7); have hzgb4_0 := (blk_cell BKgb4.out 0).trans rfl; have hfgb4_0 := blk_frozen BKgb4.out 0; have hzgb4_1 := (blk_cell BKgb4.out 1).trans rfl; have hfgb4_1 := blk_frozen BKgb4.out 1; have hzgb4_2 := (blk_cell BKgb4.out 2).trans rfl; have hfgb4_2 := blk_frozen BKgb4.out 2; have hzgb4_3 := (blk_cell BKgb4.out 3).trans rfl; have hfgb4_3 := blk_frozen BKgb4.out 3; have hzgb4_4 := (blk_cell BKgb4.out 4).trans rfl; have hfgb4_4 := blk_frozen BKgb4.out 4; have hzgb4_5 := (blk_cell BKgb4.out 5).trans rfl; have hfgb4_5 := blk_frozen BKgb4.out 5; have hzgb4_6 := (blk_cell BKgb4.out 6).trans rfl; have hfgb4_6 := blk_frozen BKgb4.out 6; have hzgb4_7 := (blk_cell BKgb4.out 7).trans rfl; have hfgb4_7 := blk_frozen BKgb4.out 7) | ((with_reducible refine gate_dst (N := 5) rfl ?_); refine box_event ?hg (N := 5) ?hd (cs := #[.int .u8 0, .int .u8 0, .int .u8 0, .int .u8 0, .int .u8 0, .int .u8 0, .int .u8 0, .int .u8 0]) (t := 64) ?hr ?_; (case hd => rfl); (case hg => rfl); (case hr => first | (go_simp; done) | (go_simp; rfl)); intro gb5 hg w6 hbox hb; have hge : w.heap.size ≤ gb5 := (by rw [hg]; exact below_size (by repeat (first | (with_reducible first | exact HB.out | apply below_alloc | apply pw_below_drewN | apply below_drew1) | exact HB.out))); have GEgb5 := Aside0.mk hge; clear hge; have hne : gb4 ≠ gb5 := (by have := blk_lt BKgb4.out; rw [hg]; exact Nat.ne_of_lt this); have NE45 := Aside0.mk hne; clear hne; have hs := below_step (by repeat (first | (with_reducible first | exact HB.out | apply below_alloc | apply pw_below_drewN | apply below_drew1) | exact HB.out)) hb; have n_ := Aside0.mk (blk_below BKgb4.out hb); clear BKgb4; have BKgb4 := n_; clear n_; clear HB; have HB := Aside0.mk hs; have BKgb5 := Aside0.mk hbox; clear hbox hb hs hg; (try clear hzgb4_0 hfgb4_0 hzgb4_1 hfgb4_1 hzgb4_2 hfgb4_2 hzgb4_3 hfgb4_3 hzgb4_4 hfgb4_4 hzgb4_5 hfgb4_5 hzgb4_6 hfgb4_6 hzgb4_7 hfgb4_7); have hzgb4_0 := (blk_cell BKgb4.out 0).trans rfl; have hfgb4_0 := blk_frozen BKgb4.out 0; have hzgb4_1 := (blk_cell BKgb4.out 1).trans rfl; have hfgb4_1 := blk_frozen BKgb4.out 1; have hzgb4_2 := (blk_cell BKgb4.out 2).trans rfl; have hfgb4_2 := blk_frozen BKgb4.out 2; have hzgb4_3 := (blk_cell BKgb4.out 3).trans rfl; have hfgb4_3 := blk_frozen BKgb4.out 3; have hzgb4_4 := (blk_cell BKgb4.out 4).trans rfl; have hfgb4_4 := blk_frozen BKgb4.out 4; have hzgb4_5 := (blk_cell BKgb4.out 5).trans rfl; have hfgb4_5 := blk_frozen BKgb4.out 5; have hzgb4_6 := (blk_cell BKgb4.out 6).trans rfl; have hfgb4_6 := blk_frozen BKgb4.out 6; have hzgb4_7 := (blk_cell BKgb4.out 7).trans rfl; have hfgb4_7 := blk_frozen BKgb4.out 7; (try clear hzgb5_0 hfgb5_0 hzgb5_1 hfgb5_1 hzgb5_2 hfgb5_2 hzgb5_3 hfgb5_3 hzgb5_4 hfgb5_4 hzgb5_5 hfgb5_5 hzgb5_6 hfgb5_6 hzgb5_7 hfgb5_7); have hzgb5_0 := (blk_cell BKgb5.out 0).trans rfl; have hfgb5_0 := blk_frozen BKgb5.out 0; have hzgb5_1 := (blk_cell BKgb5.out 1).trans rfl; have hfgb5_1 := blk_frozen BKgb5.out 1; have hzgb5_2 := (blk_cell BKgb5.out 2).trans rfl; have hfgb5_2 := blk_frozen BKgb5.out 2; have hzgb5_3 := (blk_cell BKgb5.out 3).trans rfl; have hfgb5_3 := blk_frozen BKgb5.out 3; have hzgb5_4 := (blk_cell BKgb5.out 4).trans rfl; have hfgb5_4 := blk_frozen BKgb5.out 4; have hzgb5_5 := (blk_cell BKgb5.out 5).trans rfl; have hfgb5_5 := blk_frozen BKgb5.out 5; have hzgb5_6 := (blk_cell BKgb5.out 6).trans rfl; have hfgb5_6 := blk_frozen BKgb5.out 6; have hzgb5_7 := (blk_cell BKgb5.out 7).trans rfl; have hfgb5_7 := blk_frozen BKgb5.out 7) | ((with_reducible refine gate_dst (N := 6) rfl ?_); refine box_event ?hg (N := 6) ?hd (cs := #[.int .u8 0, .int .u8 0, .int .u8 0, .int .u8 0, .int .u8 0, .int .u8 0, .int .u8 0, .int .u8 0]) (t := 64) ?hr ?_; (case hd => rfl); (case hg => rfl); (case hr => first | (go_simp; done) | (go_simp; rfl)); intro gb6 hg w7 hbox hb; have hge : w.heap.size ≤ gb6 := (by rw [hg]; exact below_size (by repeat (first | (with_reducible first | exact HB.out | apply below_alloc | apply pw_below_drewN | apply below_drew1) | exact HB.out))); have GEgb6 := Aside0.mk hge; clear hge; have hne : gb4 ≠ gb6 := (by have := blk_lt BKgb4.out; rw [hg]; exact Nat.ne_of_lt this); have NE46 := Aside0.mk hne; clear hne; have hne : gb5 ≠ gb6 := (by have := blk_lt BKgb5.out; rw [hg]; exact Nat.ne_of_lt this); have NE56 := Aside0.mk hne; clear hne; have hs := below_step (by repeat (first | (with_reducible first | exact HB.out | apply below_alloc | apply pw_below_drewN | apply below_drew1) | exact HB.out)) hb; have n_ := Aside0.mk (blk_below BKgb4.out hb); clear BKgb4; have BKgb4 := n_; clear n_; have n_ := Aside0.mk (blk_below BKgb5.out hb); clear BKgb5; have BKgb5 := n_; clear n_; clear HB; have HB := Aside0.mk hs; have BKgb6 := Aside0.mk hbox; clear hbox hb hs hg; (try clear hzgb4_0 hfgb4_0 hzgb4_1 hfgb4_1 hzgb4_2 hfgb4_2 hzgb4_3 hfgb4_3 hzgb4_4 hfgb4_4 hzgb4_5 hfgb4_5 hzgb4_6 hfgb4_6 hzgb4_7 hfgb4_7); have hzgb4_0 := (blk_cell BKgb4.out 0).trans rfl; have hfgb4_0 := blk_frozen BKgb4.out 0; have hzgb4_1 := (blk_cell BKgb4.out 1).trans rfl; have hfgb4_1 := blk_frozen BKgb4.out 1; have hzgb4_2 := (blk_cell BKgb4.out 2).trans rfl; have hfgb4_2 := blk_frozen BKgb4.out 2; have hzgb4_3 := (blk_cell BKgb4.out 3).trans rfl; have hfgb4_3 := blk_frozen BKgb4.out 3; have hzgb4_4 := (blk_cell BKgb4.out 4).trans rfl; have hfgb4_4 := blk_frozen BKgb4.out 4; have hzgb4_5 := (blk_cell BKgb4.out 5).trans rfl; have hfgb4_5 := blk_frozen BKgb4.out 5; have hzgb4_6 := (blk_cell BKgb4.out 6).trans rfl; have hfgb4_6 := blk_frozen BKgb4.out 6; have hzgb4_7 := (blk_cell BKgb4.out 7).trans rfl; have hfgb4_7 := blk_frozen BKgb4.out 7; (try clear hzgb5_0 hfgb5_0 hzgb5_1 hfgb5_1 hzgb5_2 hfgb5_2 hzgb5_3 hfgb5_3 hzgb5_4 hfgb5_4 hzgb5_5 hfgb5_5 hzgb5_6 hfgb5_6 hzgb5_7 hfgb5_7); have hzgb5_0 := (blk_cell BKgb5.out 0).trans rfl; have hfgb5_0 := blk_frozen BKgb5.out 0; have hzgb5_1 := (blk_cell BKgb5.out 1).trans rfl; have hfgb5_1 := blk_frozen BKgb5.out 1; have hzgb5_2 := (blk_cell BKgb5.out 2).trans rfl; have hfgb5_2 := blk_frozen BKgb5.out 2; have hzgb5_3 := (blk_cell BKgb5.out 3).trans rfl; have hfgb5_3 := blk_frozen BKgb5.out 3; have hzgb5_4 := (blk_cell BKgb5.out 4).trans rfl; have hfgb5_4 := blk_frozen BKgb5.out 4; have hzgb5_5 := (blk_cell BKgb5.out 5).trans rfl; have hfgb5_5 := blk_frozen BKgb5.out 5; have hzgb5_6 := (blk_cell BKgb5.out 6).trans rfl; have hfgb5_6 := blk_frozen BKgb5.out 6; have hzgb5_7 := (blk_cell BKgb5.out 7).trans rfl; have hfgb5_7 := blk_frozen BKgb5.out 7; (try clear hzgb6_0 hfgb6_0 hzgb6_1 hfgb6_1 hzgb6_2 hfgb6_2 hzgb6_3 hfgb6_3 hzgb6_4 hfgb6_4 hzgb6_5 hfgb6_5 hzgb6_6 hfgb6_6 hzgb6_7 hfgb6_7); have hzgb6_0 := (blk_cell BKgb6.out 0).trans rfl; have hfgb6_0 := blk_frozen BKgb6.out 0; have hzgb6_1 := (blk_cell BKgb6.out 1).trans rfl; have hfgb6_1 := blk_frozen BKgb6.out 1; have hzgb6_2 := (blk_cell BKgb6.out 2).trans rfl; have hfgb6_2 := blk_frozen BKgb6.out 2; have hzgb6_3 := (blk_cell BKgb6.out 3).trans rfl; have hfgb6_3 := blk_frozen BKgb6.out 3; have hzgb6_4 := (blk_cell BKgb6.out 4).trans rfl; have hfgb6_4 := blk_frozen BKgb6.out 4; have hzgb6_5 := (blk_cell BKgb6.out 5).trans rfl; have hfgb6_5 := blk_frozen BKgb6.out 5; have hzgb6_6 := (blk_cell BKgb6.out 6).trans rfl; have hfgb6_6 := blk_frozen BKgb6.out 6; have hzgb6_7 := (blk_cell BKgb6.out 7).trans rfl; have hfgb6_7 := blk_frozen BKgb6.out 7) | ((with_reducible refine gate_store (t := 64) (p := 5) rfl ?_); refine store_event (t := 64) (p := 5) (v := ?vo_s5) (w1 := (World.setCell (World.setCell (World.setCell (World.setCell (World.setCell (World.setCell (World.setCell (World.setCell w7 ⟨gb5, 0, none⟩ (.int .u8 x0)) ⟨gb5, 1, none⟩ (.int .u8 x1)) ⟨gb5, 2, none⟩ (.int .u8 x2)) ⟨gb5, 3, none⟩ (.int .u8 x3)) ⟨gb5, 4, none⟩ (.int .u8 x4)) ⟨gb5, 5, none⟩ (.int .u8 x5)) ⟨gb5, 6, none⟩ (.int .u8 x6)) ⟨gb5, 7, none⟩ (.int .u8 x7))) ?hg ?ho ?hn ?hr ?_; (case ho => rfl); (case hg => rfl); (case hn => rfl); (case hr => first | (go_simp; done) | (go_simp; rfl)); intro w8 hw; have hk : Kept w7 w8 (fun k_ => k_ = gb5) := (by rw [hw]; exact (Kept.setCell (S := fun k_ => k_ = gb5) (Kept.setCell (S := fun k_ => k_ = gb5) (Kept.setCell (S := fun k_ => k_ = gb5) (Kept.setCell (S := fun k_ => k_ = gb5) (Kept.setCell (S := fun k_ => k_ = gb5) (Kept.setCell (S := fun k_ => k_ = gb5) (Kept.setCell (S := fun k_ => k_ = gb5) (Kept.setCell (S := fun k_ => k_ = gb5) (Kept.refl _ _) (p := ⟨gb5, 0, none⟩) (Or.inl rfl) _) (p := ⟨gb5, 1, none⟩) (Or.inl rfl) _) (p := ⟨gb5, 2, none⟩) (Or.inl rfl) _) (p := ⟨gb5, 3, none⟩) (Or.inl rfl) _) (p := ⟨gb5, 4, none⟩) (Or.inl rfl) _) (p := ⟨gb5, 5, none⟩) (Or.inl rfl) _) (p := ⟨gb5, 6, none⟩) (Or.inl rfl) _) (p := ⟨gb5, 7, none⟩) (Or.inl rfl) _)); have hc : w8.heap[gb5]? = some (.cells #[.int .u8 x0, .int .u8 x1, .int .u8 x2, .int .u8 x3, .int .u8 x4, .int .u8 x5, .int .u8 x6, .int .u8 x7] 64 (0, 0)) := (by rw [hw]; exact (blk_put (blk_put (blk_put (blk_put (blk_put (blk_put (blk_put (blk_put BKgb5.out 0 _ rfl) 1 _ rfl) 2 _ rfl) 3 _ rfl) 4 _ rfl) 5 _ rfl) 6 _ rfl) 7 _ rfl)); have hd : Below w.heap.size w w8 := (by rw [hw]; exact (below_set (below_set (below_set (below_set (below_set (below_set (below_set (below_set HB.out GEgb5.out) GEgb5.out) GEgb5.out) GEgb5.out) GEgb5.out) GEgb5.out) GEgb5.out) GEgb5.out)); have n_ := Aside0.mk (blk_kept BKgb4.out hk (fun hs_ => NE45.out (by first | exact hs_ | exact hs_.symm))); clear BKgb4; have BKgb4 := n_; clear n_; have n_ := Aside0.mk (blk_kept BKgb6.out hk (fun hs_ => NE56.out (by first | exact hs_ | exact hs_.symm))); clear BKgb6; have BKgb6 := n_; clear n_; clear BKgb5; have BKgb5 := Aside0.mk hc; clear HB; have HB := Aside0.mk hd; clear hk hc hd hw; (try clear hzgb4_0 hfgb4_0 hzgb4_1 hfgb4_1 hzgb4_2 hfgb4_2 hzgb4_3 hfgb4_3 hzgb4_4 hfgb4_4 hzgb4_5 hfgb4_5 hzgb4_6 hfgb4_6 hzgb4_7 hfgb4_7); have hzgb4_0 := (blk_cell BKgb4.out 0).trans rfl; have hfgb4_0 := blk_frozen BKgb4.out 0; have hzgb4_1 := (blk_cell BKgb4.out 1).trans rfl; have hfgb4_1 := blk_frozen BKgb4.out 1; have hzgb4_2 := (blk_cell BKgb4.out 2).trans rfl; have hfgb4_2 := blk_frozen BKgb4.out 2; have hzgb4_3 := (blk_cell BKgb4.out 3).trans rfl; have hfgb4_3 := blk_frozen BKgb4.out 3; have hzgb4_4 := (blk_cell BKgb4.out 4).trans rfl; have hfgb4_4 := blk_frozen BKgb4.out 4; have hzgb4_5 := (blk_cell BKgb4.out 5).trans rfl; have hfgb4_5 := blk_frozen BKgb4.out 5; have hzgb4_6 := (blk_cell BKgb4.out 6).trans rfl; have hfgb4_6 := blk_frozen BKgb4.out 6; have hzgb4_7 := (blk_cell BKgb4.out 7).trans rfl; have hfgb4_7 := blk_frozen BKgb4.out 7; (try clear hzgb6_0 hfgb6_0 hzgb6_1 hfgb6_1 hzgb6_2 hfgb6_2 hzgb6_3 hfgb6_3 hzgb6_4 hfgb6_4 hzgb6_5 hfgb6_5 hzgb6_6 hfgb6_6 hzgb6_7 hfgb6_7); have hzgb6_0 := (blk_cell BKgb6.out 0).trans rfl; have hfgb6_0 := blk_frozen BKgb6.out 0; have hzgb6_1 := (blk_cell BKgb6.out 1).trans rfl; have hfgb6_1 := blk_frozen BKgb6.out 1; have hzgb6_2 := (blk_cell BKgb6.out 2).trans rfl; have hfgb6_2 := blk_frozen BKgb6.out 2; have hzgb6_3 := (blk_cell BKgb6.out 3).trans rfl; have hfgb6_3 := blk_frozen BKgb6.out 3; have hzgb6_4 := (blk_cell BKgb6.out 4).trans rfl; have hfgb6_4 := blk_frozen BKgb6.out 4; have hzgb6_5 := (blk_cell BKgb6.out 5).trans rfl; have hfgb6_5 := blk_frozen BKgb6.out 5; have hzgb6_6 := (blk_cell BKgb6.out 6).trans rfl; have hfgb6_6 := blk_frozen BKgb6.out 6; have hzgb6_7 := (blk_cell BKgb6.out 7).trans rfl; have hfgb6_7 := blk_frozen BKgb6.out 7; (try clear hzgb5_0 hfgb5_0 hzgb5_1 hfgb5_1 hzgb5_2 hfgb5_2 hzgb5_3 hfgb5_3 hzgb5_4 hfgb5_4 hzgb5_5 hfgb5_5 hzgb5_6 hfgb5_6 hzgb5_7 hfgb5_7); have hzgb5_0 := (blk_cell BKgb5.out 0).trans rfl; have hfgb5_0 := blk_frozen BKgb5.out 0; have hzgb5_1 := (blk_cell BKgb5.out 1).trans rfl; have hfgb5_1 := blk_frozen BKgb5.out 1; have hzgb5_2 := (blk_cell BKgb5.out 2).trans rfl; have hfgb5_2 := blk_frozen BKgb5.out 2; have hzgb5_3 := (blk_cell BKgb5.out 3).trans rfl; have hfgb5_3 := blk_frozen BKgb5.out 3; have hzgb5_4 := (blk_cell BKgb5.out 4).trans rfl; have hfgb5_4 := blk_frozen BKgb5.out 4; have hzgb5_5 := (blk_cell BKgb5.out 5).trans rfl; have hfgb5_5 := blk_frozen BKgb5.out 5; have hzgb5_6 := (blk_cell BKgb5.out 6).trans rfl; have hfgb5_6 := blk_frozen BKgb5.out 6; have hzgb5_7 := (blk_cell BKgb5.out 7).trans rfl; have hfgb5_7 := blk_frozen BKgb5.out 7) | ((with_reducible refine gate_store (t := 64) (p := 6) rfl ?_); refine store_event (t := 64) (p := 6) (v := ?vo_s6) (w1 := (World.setCell (World.setCell (World.setCell (World.setCell (World.setCell (World.setCell (World.setCell (World.setCell w8 ⟨gb6, 0, none⟩ (.int .u8 0)) ⟨gb6, 1, none⟩ (.int .u8 0)) ⟨gb6, 2, none⟩ (.int .u8 0)) ⟨gb6, 3, none⟩ (.int .u8 0)) ⟨gb6, 4, none⟩ (.int .u8 0)) ⟨gb6, 5, none⟩ (.int .u8 0)) ⟨gb6, 6, none⟩ (.int .u8 0)) ⟨gb6, 7, none⟩ (.int .u8 0))) ?hg ?ho ?hn ?hr ?_; (case ho => rfl); (case hg => rfl); (case hn => rfl); (case hr => first | (go_simp; done) | (go_simp; rfl)); intro w9 hw; have hk : Kept w8 w9 (fun k_ => k_ = gb6) := (by rw [hw]; exact (Kept.setCell (S := fun k_ => k_ = gb6) (Kept.setCell (S := fun k_ => k_ = gb6) (Kept.setCell (S := fun k_ => k_ = gb6) (Kept.setCell (S := fun k_ => k_ = gb6) (Kept.setCell (S := fun k_ => k_ = gb6) (Kept.setCell (S := fun k_ => k_ = gb6) (Kept.setCell (S := fun k_ => k_ = gb6) (Kept.setCell (S := fun k_ => k_ = gb6) (Kept.refl _ _) (p := ⟨gb6, 0, none⟩) (Or.inl rfl) _) (p := ⟨gb6, 1, none⟩) (Or.inl rfl) _) (p := ⟨gb6, 2, none⟩) (Or.inl rfl) _) (p := ⟨gb6, 3, none⟩) (Or.inl rfl) _) (p := ⟨gb6, 4, none⟩) (Or.inl rfl) _) (p := ⟨gb6, 5, none⟩) (Or.inl rfl) _) (p := ⟨gb6, 6, none⟩) (Or.inl rfl) _) (p := ⟨gb6, 7, none⟩) (Or.inl rfl) _)); have hc : w9.heap[gb6]? = some (.cells #[.int .u8 0, .int .u8 0, .int .u8 0, .int .u8 0, .int .u8 0, .int .u8 0, .int .u8 0, .int .u8 0] 64 (0, 0)) := (by rw [hw]; exact (blk_put (blk_put (blk_put (blk_put (blk_put (blk_put (blk_put (blk_put BKgb6.out 0 _ rfl) 1 _ rfl) 2 _ rfl) 3 _ rfl) 4 _ rfl) 5 _ rfl) 6 _ rfl) 7 _ rfl)); have hd : Below w.heap.size w w9 := (by rw [hw]; exact (below_set (below_set (below_set (below_set (below_set (below_set (below_set (below_set HB.out GEgb6.out) GEgb6.out) GEgb6.out) GEgb6.out) GEgb6.out) GEgb6.out) GEgb6.out) GEgb6.out)); have n_ := Aside0.mk (blk_kept BKgb4.out hk (fun hs_ => NE46.out (by first | exact hs_ | exact hs_.symm))); clear BKgb4; have BKgb4 := n_; clear n_; have n_ := Aside0.mk (blk_kept BKgb5.out hk (fun hs_ => NE56.out (by first | exact hs_ | exact hs_.symm))); clear BKgb5; have BKgb5 := n_; clear n_; clear BKgb6; have BKgb6 := Aside0.mk hc; clear HB; have HB := Aside0.mk hd; clear hk hc hd hw; (try clear hzgb4_0 hfgb4_0 hzgb4_1 hfgb4_1 hzgb4_2 hfgb4_2 hzgb4_3 hfgb4_3 hzgb4_4 hfgb4_4 hzgb4_5 hfgb4_5 hzgb4_6 hfgb4_6 hzgb4_7 hfgb4_7); have hzgb4_0 := (blk_cell BKgb4.out 0).trans rfl; have hfgb4_0 := blk_frozen BKgb4.out 0; have hzgb4_1 := (blk_cell BKgb4.out 1).trans rfl; have hfgb4_1 := blk_frozen BKgb4.out 1; have hzgb4_2 := (blk_cell BKgb4.out 2).trans rfl; have hfgb4_2 := blk_frozen BKgb4.out 2; have hzgb4_3 := (blk_cell BKgb4.out 3).trans rfl; have hfgb4_3 := blk_frozen BKgb4.out 3; have hzgb4_4 := (blk_cell BKgb4.out 4).trans rfl; have hfgb4_4 := blk_frozen BKgb4.out 4; have hzgb4_5 := (blk_cell BKgb4.out 5).trans rfl; have hfgb4_5 := blk_frozen BKgb4.out 5; have hzgb4_6 := (blk_cell BKgb4.out 6).trans rfl; have hfgb4_6 := blk_frozen BKgb4.out 6; have hzgb4_7 := (blk_cell BKgb4.out 7).trans rfl; have hfgb4_7 := blk_frozen BKgb4.out 7; (try clear hzgb5_0 hfgb5_0 hzgb5_1 hfgb5_1 hzgb5_2 hfgb5_2 hzgb5_3 hfgb5_3 hzgb5_4 hfgb5_4 hzgb5_5 hfgb5_5 hzgb5_6 hfgb5_6 hzgb5_7 hfgb5_7); have hzgb5_0 := (blk_cell BKgb5.out 0).trans rfl; have hfgb5_0 := blk_frozen BKgb5.out 0; have hzgb5_1 := (blk_cell BKgb5.out 1).trans rfl; have hfgb5_1 := blk_frozen BKgb5.out 1; have hzgb5_2 := (blk_cell BKgb5.out 2).trans rfl; have hfgb5_2 := blk_frozen BKgb5.out 2; have hzgb5_3 := (blk_cell BKgb5.out 3).trans rfl; have hfgb5_3 := blk_frozen BKgb5.out 3; have hzgb5_4 := (blk_cell BKgb5.out 4).trans rfl; have hfgb5_4 := blk_frozen BKgb5.out 4; have hzgb5_5 := (blk_cell BKgb5.out 5).trans rfl; have hfgb5_5 := blk_frozen BKgb5.out 5; have hzgb5_6 := (blk_cell BKgb5.out 6).trans rfl; have hfgb5_6 := blk_frozen BKgb5.out 6; have hzgb5_7 := (blk_cell BKgb5.out 7).trans rfl; have hfgb5_7 := blk_frozen BKgb5.out 7; (try clear hzgb6_0 hfgb6_0 hzgb6_1 hfgb6_1 hzgb6_2 hfgb6_2 hzgb6_3 hfgb6_3 hzgb6_4 hfgb6_4 hzgb6_5 hfgb6_5 hzgb6_6 hfgb6_6 hzgb6_7 hfgb6_7); have hzgb6_0 := (blk_cell BKgb6.out 0).trans rfl; have hfgb6_0 := blk_frozen BKgb6.out 0; have hzgb6_1 := (blk_cell BKgb6.out 1).trans rfl; have hfgb6_1 := blk_frozen BKgb6.out 1; have hzgb6_2 := (blk_cell BKgb6.out 2).trans rfl; have hfgb6_2 := blk_frozen BKgb6.out 2; have hzgb6_3 := (blk_cell BKgb6.out 3).trans rfl; have hfgb6_3 := blk_frozen BKgb6.out 3; have hzgb6_4 := (blk_cell BKgb6.out 4).trans rfl; have hfgb6_4 := blk_frozen BKgb6.out 4; have hzgb6_5 := (blk_cell BKgb6.out 5).trans rfl; have hfgb6_5 := blk_frozen BKgb6.out 5; have hzgb6_6 := (blk_cell BKgb6.out 6).trans rfl; have hfgb6_6 := blk_frozen BKgb6.out 6; have hzgb6_7 := (blk_cell BKgb6.out 7).trans rfl; have hfgb6_7 := blk_frozen BKgb6.out 7))
 obtain ⟨s, hs⟩ : ∃ s, l1.foldl sw (fillL n.toNat) = s := ⟨_, rfl⟩
 have hsi := HSI.out
 have hex := HEX.out
 rw [hs] at hsi hex
 clear HSI HEX
 have HSI := Aside0.mk hsi
 have HQ := Aside0.mk hs
 have BKL := Aside0.mk (show w9.heap[gb6]? = some (.cells ((permGo s 0).map (Value.int .u8)).toArray 64 (0, 0)) from BKgb6.out)
 have BKS := Aside0.mk (show w9.heap[gb5]? = some (.cells (s.map (Value.int .u8)).toArray 64 (0, 0)) by rw [hex]; exact BKgb5.out)
 clear hsi hex hs BKgb5 BKgb6 hzgb4_0 hfgb4_0 hzgb4_1 hfgb4_1 hzgb4_2 hfgb4_2 hzgb4_3 hfgb4_3 hzgb4_4 hfgb4_4 hzgb4_5 hfgb4_5 hzgb4_6 hfgb4_6 hzgb4_7 hfgb4_7 hzgb5_0 hfgb5_0 hzgb5_1 hfgb5_1 hzgb5_2 hfgb5_2 hzgb5_3 hfgb5_3 hzgb5_4 hfgb5_4 hzgb5_5 hfgb5_5 hzgb5_6 hfgb5_6 hzgb5_7 hfgb5_7 hzgb6_0 hfgb6_0 hzgb6_1 hfgb6_1 hzgb6_2 hfgb6_2 hzgb6_3 hfgb6_3 hzgb6_4 hfgb6_4 hzgb6_5 hfgb6_5 hzgb6_6 hfgb6_6 hzgb6_7 hfgb6_7
 go_loopg [7] n.toNat (fun gg v7 wr => ∃ x : Int, v7 = .int .i64 x ∧ Aside0 (0 ≤ x ∧ gg + x.toNat = n.toNat) ∧ Aside0 (wr.heap[gb6]? = some (.cells ((permGo s x.toNat).map (Value.int .u8)).toArray 64 (0, 0))) ∧ Aside0 (wr.heap[gb5]? = some (.cells (s.map (Value.int .u8)).toArray 64 (0, 0))) ∧ Aside0 (wr.heap[gb4]? = some (.cells #[.int .u8 0, .int .u8 0, .int .u8 0, .int .u8 0, .int .u8 0, .int .u8 0, .int .u8 0, .int .u8 0] 64 (0, 0))) ∧ Aside0 (Below w.heap.size w wr))
 case atStart => exact ⟨0, by first | rfl | (simp; done), ⟨by omega⟩, BKL, BKS, BKgb4, HB⟩
 case round =>
  clear BKL BKS BKgb4 HB
  obtain ⟨x, rfl, HK, BKL, BKS, BKgb4, HB⟩ := hrel
  by_cases hx : x < n
  ·have c1 : decide (x < n) = true := decide_eq_true hx
   have hxx : 0 ≤ x ∧ x < 8 := by have := HN.out; have := HK.out; omega
   have HX := Aside0.mk hxx
   have HXN := Aside0.mk hx
   obtain ⟨hz, hzf⟩ := arr_rd BKS.out x HSI.out.1 hxx.1 hxx.2
   have hsv := HSI.out.at_ hxx.1 hxx.2
   obtain ⟨sv, hsve⟩ : ∃ sv, rd s x = sv := ⟨_, rfl⟩
   rw [hsve] at hz hsv
   have HSV := Aside0.mk hsve
   obtain ⟨hy, hyf⟩ := arr_rd BKL.out sv (permGo_in s x.toNat (by omega)).1 hsv.1 (by omega)
   have HU := Aside0.mk (u8w' (x := x) (by omega))
   have HSB := Aside0.mk hsv
   have p1 := eq_true hxx.1
   have q1 := eq_true hxx.2
   have p2 := eq_true hsv.1
   have q2 := eq_true (show sv < 8 by omega)
   have d1 : decide (0 ≤ x) = true := decide_eq_true hxx.1
   have d2 : decide (x < 8) = true := decide_eq_true hxx.2
   have d3 : decide (0 ≤ sv) = true := decide_eq_true hsv.1
   have d4 : decide (sv < 8) = true := decide_eq_true (by omega)
   clear hx hxx hsv hsve
   go_wp2_with (first | ((with_reducible refine gate_store (t := 5) (p := 22) rfl ?_); refine store_event (t := 5) (p := 22) (v := ?vo_t) (w1 := (World.setCell wr ⟨gb6, (sv : Int).toNat, none⟩ (.int .u8 (IntKind.u8.wrap x)))) ?hg ?ho ?hn ?hr ?_; (case ho => rfl); (case hg => rfl); (case hn => rfl); (case hr => first | (go_simp; done) | (go_simp; rfl)); intro w7b hw; have n_ := Aside0.mk (arr_put BKL.out (sv : Int).toNat (IntKind.u8.wrap x) hw); clear BKL; have BKL := n_; clear n_; have hk := (by rw [hw]; exact (Kept.setCell (S := fun k_ => k_ = gb6) (Kept.refl _ _) (p := ⟨gb6, _, none⟩) (Or.inl rfl) _) : Kept wr w7b (fun k_ => k_ = gb6)); have n_ := Aside0.mk (blk_kept BKgb4.out hk (fun hs_ => NE46.out hs_)); clear BKgb4; have BKgb4 := n_; clear n_; have n_ := Aside0.mk (blk_kept BKS.out hk (fun hs_ => NE56.out hs_)); clear BKS; have BKS := n_; clear n_; have n_ := Aside0.mk (show Below w.heap.size w w7b from (by rw [hw]; exact below_set HB.out GEgb6.out)); clear HB; have HB := n_; clear n_ hk hw))
   go_roundg (n.toNat - (x.toNat + 1))
   case measure => have := HK.out; have := HXN.out; omega
   case rel =>
    have HW := Aside0.mk (show wrap64 (x + 1) = x + 1 by have := HX.out; unfold wrap64; omega)
    exact ⟨wrap64 (x + 1), by first | rfl | (simp; done) | (simp [*]; done), ⟨by have := HK.out; have := HXN.out; rw [HW.out]; omega⟩, ⟨by have h1 := BKL.out; rw [HU.out] at h1; rw [HW.out, show (x + 1).toNat = x.toNat + 1 by have := HX.out; omega, permGo, show ((x.toNat : Nat) : Int) = x by have := HX.out; omega, HSV.out]; exact h1⟩, BKS, BKgb4, HB⟩
  ·have c1 : decide (x < n) = false := decide_eq_false hx
   have ez : x.toNat = n.toNat := by have := HN.out; have := HK.out; omega
   have h1 := BKL.out
   rw [ez] at h1
   have h2 := permGo_in s n.toNat (by have := HN.out; omega)
   clear BKL hx ez
   obtain ⟨y0, y1, y2, y3, y4, y5, y6, y7, ey⟩ := len8 h2.1
   have HEY := Aside0.mk ey
   rw [ey] at h1
   have BKgb6 := Aside0.mk (show wr.heap[gb6]? = some (.cells #[.int .u8 y0, .int .u8 y1, .int .u8 y2, .int .u8 y3, .int .u8 y4, .int .u8 y5, .int .u8 y6, .int .u8 y7] 64 (0, 0)) from h1)
   clear h1 h2 ey
   skip; (try clear hzgb4_0 hfgb4_0 hzgb4_1 hfgb4_1 hzgb4_2 hfgb4_2 hzgb4_3 hfgb4_3 hzgb4_4 hfgb4_4 hzgb4_5 hfgb4_5 hzgb4_6 hfgb4_6 hzgb4_7 hfgb4_7); have hzgb4_0 := (blk_cell BKgb4.out 0).trans rfl; have hfgb4_0 := blk_frozen BKgb4.out 0; have hzgb4_1 := (blk_cell BKgb4.out 1).trans rfl; have hfgb4_1 := blk_frozen BKgb4.out 1; have hzgb4_2 := (blk_cell BKgb4.out 2).trans rfl; have hfgb4_2 := blk_frozen BKgb4.out 2; have hzgb4_3 := (blk_cell BKgb4.out 3).trans rfl; have hfgb4_3 := blk_frozen BKgb4.out 3; have hzgb4_4 := (blk_cell BKgb4.out 4).trans rfl; have hfgb4_4 := blk_frozen BKgb4.out 4; have hzgb4_5 := (blk_cell BKgb4.out 5).trans rfl; have hfgb4_5 := blk_frozen BKgb4.out 5; have hzgb4_6 := (blk_cell BKgb4.out 6).trans rfl; have hfgb4_6 := blk_frozen BKgb4.out 6; have hzgb4_7 := (blk_cell BKgb4.out 7).trans rfl; have hfgb4_7 := blk_frozen BKgb4.out 7; (try clear hzgb6_0 hfgb6_0 hzgb6_1 hfgb6_1 hzgb6_2 hfgb6_2 hzgb6_3 hfgb6_3 hzgb6_4 hfgb6_4 hzgb6_5 hfgb6_5 hzgb6_6 hfgb6_6 hzgb6_7 hfgb6_7); have hzgb6_0 := (blk_cell BKgb6.out 0).trans rfl; have hfgb6_0 := blk_frozen BKgb6.out 0; have hzgb6_1 := (blk_cell BKgb6.out 1).trans rfl; have hfgb6_1 := blk_frozen BKgb6.out 1; have hzgb6_2 := (blk_cell BKgb6.out 2).trans rfl; have hfgb6_2 := blk_frozen BKgb6.out 2; have hzgb6_3 := (blk_cell BKgb6.out 3).trans rfl; have hfgb6_3 := blk_frozen BKgb6.out 3; have hzgb6_4 := (blk_cell BKgb6.out 4).trans rfl; have hfgb6_4 := blk_frozen BKgb6.out 4; have hzgb6_5 := (blk_cell BKgb6.out 5).trans rfl; have hfgb6_5 := blk_frozen BKgb6.out 5; have hzgb6_6 := (blk_cell BKgb6.out 6).trans rfl; have hfgb6_6 := blk_frozen BKgb6.out 6; have hzgb6_7 := (blk_cell BKgb6.out 7).trans rfl; have hfgb6_7 := blk_frozen BKgb6.out 7
   go_wp2_with (first | ((with_reducible refine gate_store (t := 64) (p := 4) rfl ?_); refine store_event (t := 64) (p := 4) (v := ?vo_fin) (w1 := (World.setCell (World.setCell (World.setCell (World.setCell (World.setCell (World.setCell (World.setCell (World.setCell wr ⟨gb4, 0, none⟩ (.int .u8 y0)) ⟨gb4, 1, none⟩ (.int .u8 y1)) ⟨gb4, 2, none⟩ (.int .u8 y2)) ⟨gb4, 3, none⟩ (.int .u8 y3)) ⟨gb4, 4, none⟩ (.int .u8 y4)) ⟨gb4, 5, none⟩ (.int .u8 y5)) ⟨gb4, 6, none⟩ (.int .u8 y6)) ⟨gb4, 7, none⟩ (.int .u8 y7))) ?hg ?ho ?hn ?hr ?_; (case ho => rfl); (case hg => rfl); (case hn => rfl); (case hr => first | (go_simp; done) | (go_simp; rfl)); intro w10 hw; have hk : Kept wr w10 (fun k_ => k_ = gb4) := (by rw [hw]; exact (Kept.setCell (S := fun k_ => k_ = gb4) (Kept.setCell (S := fun k_ => k_ = gb4) (Kept.setCell (S := fun k_ => k_ = gb4) (Kept.setCell (S := fun k_ => k_ = gb4) (Kept.setCell (S := fun k_ => k_ = gb4) (Kept.setCell (S := fun k_ => k_ = gb4) (Kept.setCell (S := fun k_ => k_ = gb4) (Kept.setCell (S := fun k_ => k_ = gb4) (Kept.refl _ _) (p := ⟨gb4, 0, none⟩) (Or.inl rfl) _) (p := ⟨gb4, 1, none⟩) (Or.inl rfl) _) (p := ⟨gb4, 2, none⟩) (Or.inl rfl) _) (p := ⟨gb4, 3, none⟩) (Or.inl rfl) _) (p := ⟨gb4, 4, none⟩) (Or.inl rfl) _) (p := ⟨gb4, 5, none⟩) (Or.inl rfl) _) (p := ⟨gb4, 6, none⟩) (Or.inl rfl) _) (p := ⟨gb4, 7, none⟩) (Or.inl rfl) _)); have hc : w10.heap[gb4]? = some (.cells #[.int .u8 y0, .int .u8 y1, .int .u8 y2, .int .u8 y3, .int .u8 y4, .int .u8 y5, .int .u8 y6, .int .u8 y7] 64 (0, 0)) := (by rw [hw]; exact (blk_put (blk_put (blk_put (blk_put (blk_put (blk_put (blk_put (blk_put BKgb4.out 0 _ rfl) 1 _ rfl) 2 _ rfl) 3 _ rfl) 4 _ rfl) 5 _ rfl) 6 _ rfl) 7 _ rfl)); have hd : Below w.heap.size w w10 := (by rw [hw]; exact (below_set (below_set (below_set (below_set (below_set (below_set (below_set (below_set HB.out GEgb4.out) GEgb4.out) GEgb4.out) GEgb4.out) GEgb4.out) GEgb4.out) GEgb4.out) GEgb4.out)); have n_ := Aside0.mk (blk_kept BKgb6.out hk (fun hs_ => NE46.out (by first | exact hs_ | exact hs_.symm))); clear BKgb6; have BKgb6 := n_; clear n_; clear BKgb4; have BKgb4 := Aside0.mk hc; clear HB; have HB := Aside0.mk hd; clear hk hc hd hw; (try clear hzgb6_0 hfgb6_0 hzgb6_1 hfgb6_1 hzgb6_2 hfgb6_2 hzgb6_3 hfgb6_3 hzgb6_4 hfgb6_4 hzgb6_5 hfgb6_5 hzgb6_6 hfgb6_6 hzgb6_7 hfgb6_7); have hzgb6_0 := (blk_cell BKgb6.out 0).trans rfl; have hfgb6_0 := blk_frozen BKgb6.out 0; have hzgb6_1 := (blk_cell BKgb6.out 1).trans rfl; have hfgb6_1 := blk_frozen BKgb6.out 1; have hzgb6_2 := (blk_cell BKgb6.out 2).trans rfl; have hfgb6_2 := blk_frozen BKgb6.out 2; have hzgb6_3 := (blk_cell BKgb6.out 3).trans rfl; have hfgb6_3 := blk_frozen BKgb6.out 3; have hzgb6_4 := (blk_cell BKgb6.out 4).trans rfl; have hfgb6_4 := blk_frozen BKgb6.out 4; have hzgb6_5 := (blk_cell BKgb6.out 5).trans rfl; have hfgb6_5 := blk_frozen BKgb6.out 5; have hzgb6_6 := (blk_cell BKgb6.out 6).trans rfl; have hfgb6_6 := blk_frozen BKgb6.out 6; have hzgb6_7 := (blk_cell BKgb6.out 7).trans rfl; have hfgb6_7 := blk_frozen BKgb6.out 7; (try clear hzgb4_0 hfgb4_0 hzgb4_1 hfgb4_1 hzgb4_2 hfgb4_2 hzgb4_3 hfgb4_3 hzgb4_4 hfgb4_4 hzgb4_5 hfgb4_5 hzgb4_6 hfgb4_6 hzgb4_7 hfgb4_7); have hzgb4_0 := (blk_cell BKgb4.out 0).trans rfl; have hfgb4_0 := blk_frozen BKgb4.out 0; have hzgb4_1 := (blk_cell BKgb4.out 1).trans rfl; have hfgb4_1 := blk_frozen BKgb4.out 1; have hzgb4_2 := (blk_cell BKgb4.out 2).trans rfl; have hfgb4_2 := blk_frozen BKgb4.out 2; have hzgb4_3 := (blk_cell BKgb4.out 3).trans rfl; have hfgb4_3 := blk_frozen BKgb4.out 3; have hzgb4_4 := (blk_cell BKgb4.out 4).trans rfl; have hfgb4_4 := blk_frozen BKgb4.out 4; have hzgb4_5 := (blk_cell BKgb4.out 5).trans rfl; have hfgb4_5 := blk_frozen BKgb4.out 5; have hzgb4_6 := (blk_cell BKgb4.out 6).trans rfl; have hfgb4_6 := blk_frozen BKgb4.out 6; have hzgb4_7 := (blk_cell BKgb4.out 7).trans rfl; have hfgb4_7 := blk_frozen BKgb4.out 7))
   refine bodyPost_ret (results_cell_row rfl _ _ gb4 64 #[.int .u8 y0, .int .u8 y1, .int .u8 y2, .int .u8 y3, .int .u8 y4, .int .u8 y5, .int .u8 y6, .int .u8 y7] (0, 0) _ rfl BKgb4.out Try.underlying64 rfl (by kernel_rfl)) rfl ?_
   exact ⟨by rw [HQ.out, HEY.out]; rfl, HB.out⟩
def spec_l01Perm.f (n : Int) (l : List Int) : List Int := permL n l


/-! ### spec_l11Components: function 81 -/
mutual
def l11.l0 (n : Int) (ends : List Int) : Nat → List Int → Int → Int → Option (List Int × Int)
 | 0, _, _, _ => none
 | k + 1, out, x, c => if x < n then (if 0 ≤ rd out x then l11.l0 n ends k out (x + 1) c else l11.l1 n ends k out x c x) else some (out, c)
def l11.l1 (n : Int) (ends : List Int) : Nat → List Int → Int → Int → Int → Option (List Int × Int)
 | 0, _, _, _, _ => none
 | k + 1, out, x, c, y => if rd out y < 0 then l11.l1 n ends k (out.set y.toNat c) x c (rd ends y) else l11.l0 n ends k out (x + 1) (c + 1)
end
theorem l11.mono_l (n : Int) (ends : List Int) : ∀ k, (∀ y0 y1 y2, LeO (l11.l0 n ends k y0 y1 y2) (l11.l0 n ends (k + 1) y0 y1 y2)) ∧ (∀ y0 y1 y2 y3, LeO (l11.l1 n ends k y0 y1 y2 y3) (l11.l1 n ends (k + 1) y0 y1 y2 y3))
 | 0 => ⟨fun _ _ _ r h => by simp [l11.l0] at h, fun _ _ _ _ r h => by simp [l11.l1] at h⟩
 | k + 1 => by
  obtain ⟨ih0, ih1⟩ := l11.mono_l n ends k
  refine ⟨?_, ?_⟩
  ·intro y0 y1 y2
   unfold l11.l0
   exact LeO.ite (LeO.ite (ih0 _ _ _) (ih1 _ _ _ _)) (LeO.refl _)
  ·intro y0 y1 y2 y3
   unfold l11.l1
   exact LeO.ite (ih1 _ _ _ _) (ih0 _ _ _)
def l11.fill : Nat → List Int
 | 0 => List.replicate 8 0
 | k + 1 => (l11.fill k).set k (-1)
theorem l11.fill_length : ∀ k, (l11.fill k).length = 8
 | 0 => rfl
 | k + 1 => by rw [l11.fill, List.length_set]; exact l11.fill_length k
def l11.f (k : Nat) (n : Int) (l : List Int) : Option (List Int × Int) := l11.l0 n (permL n l) k (l11.fill 8) 0 0
theorem l11.mono (n : Int) (l : List Int) (k : Nat) : LeO (l11.f k n l) (l11.f (k + 1) n l) := (l11.mono_l n _ k).1 _ _ _
def l11.good (n : Int) (l : List Int) : Bool := decide (1 ≤ n ∧ n ≤ 8) && decide (l.length ≤ 200) && l.all fun x => decide (1 ≤ mx x (wrap64 (-x)) ∧ mx x (wrap64 (-x)) ≤ 7)
theorem l11.good_iff {n : Int} {l : List Int} (h : l11.good n l = true) : (1 ≤ n ∧ n ≤ 8) ∧ l.length ≤ 200 ∧ ∀ x ∈ l, GenK x := by
 simp only [l11.good, Bool.and_eq_true, decide_eq_true_eq, List.all_eq_true] at h
 exact ⟨h.1.1, h.1.2, h.2⟩
set_option maxHeartbeats 8000000 in
set_option maxRecDepth 100000 in
theorem l11_calls (k : Nat) (n : Int) (hn : 1 ≤ n ∧ n ≤ 8) (A1 : Option Addr) (c1 : Nat) (l1 : List Int) (hg1 : ∀ x ∈ l1, GenK x) (r : List Int × Int) (h : l11.f k n l1 = some r) (w : World) (hr1 : Kd.C (Kd.int .i64) w A1 l1.length l1) (hc1 : l1.length ≤ c1) :
  Calls Try.prog 81 #[.int .i64 n, .slice A1 l1.length c1] w fun e w' => (r.1.length = 8 ∧ 0 ≤ r.2 ∧ r.2 ≤ 8) ∧ e = .returned (.tuple #[.agg (r.1.map (Value.int .i64)).toArray, .int .i64 r.2]) ∧ Below w.heap.size w w' := by
 have hu8 := Try.underlying59
 have hua := Try.underlying64
 have HPI := Aside0.mk (permGo_in (l1.foldl sw (fillL n.toNat)) n.toNat (by omega))
 have HPL := Aside0.mk (show (permL n l1).length = 8 from HPI.out.1)
 have HR1 := Aside0.mk hr1
 have HC1 := Aside0.mk hc1
 have HGN := Aside0.mk hg1
 have HN := Aside0.mk (show 0 ≤ n ∧ n ≤ 8 by omega)
 clear hr1 hc1 hg1 hn
 have H' := Aside0.mk h
 clear h
 unfold l11.f at H'
 have HB := Aside0.mk (Below.refl w.heap.size w)
 go_enter Try.func81, Try.ntmps81
 go_wp2_with (first | ((with_reducible refine gate_dst (N := 4) rfl ?_); refine box_event ?hg (N := 4) ?hd (cs := #[.int .i64 0, .int .i64 0, .int .i64 0, .int .i64 0, .int .i64 0, .int .i64 0, .int .i64 0, .int .i64 0]) (t := 59) ?hr ?_; (case hd => rfl); (case hg => rfl); (case hr => first | (go_simp; done) | (go_simp; rfl)); intro gr hg w4 hbox hb; have GE_gr : Aside0 (w.heap.size ≤ gr) := ⟨by rw [hg]; exact below_size (by repeat (first | (with_reducible first | exact HB.out | apply below_alloc | apply pw_below_drewN | apply below_drew1) | exact HB.out))⟩; have n_ := Aside0.mk (below_step (by repeat (first | (with_reducible first | exact HB.out | apply below_alloc | apply pw_below_drewN | apply below_drew1) | exact HB.out)) hb); clear HB; have HB := n_; clear n_; have ARr : Aside0 (Ar (Value.int .i64) 59 w4 gr (List.replicate 8 (0))) := ⟨hbox⟩; clear hbox hb hg) | ((with_reducible refine gate_callee (f := 73) rfl ?_); refine goesL_ (some 14) rfl rfl Try.func73 (by kernel_rfl) rfl #[.int .i64 n, .slice A1 l1.length c1] rfl (by (try simp only [List.map_toArray, List.map_cons, List.map_nil]); first | done | rfl) ?_; (with_reducible refine (perm_calls n HN.out _ _ l1 HGN.out _ ?side1 ?side2).mono ?_); (case side1 => repeat (first | exact (Kd.C_below HR1.out HB.out) | (with_reducible refine Kd.C_alloc ?_ _) | (with_reducible refine Kd.C_drewN ?_ _) | (with_reducible refine Kd.C_drew ?_))); (case side2 => exact HC1.out); rintro e wc ⟨rfl, hb⟩; refine ⟨_, rfl, ?_⟩; have n_ := Aside0.mk (ar_below (by (with_reducible repeat (first | refine ar_alloc ?_ _ | refine ar_drewN ?_ _ | refine ar_drew ?_)); exact ARr.out) hb); clear ARr; have ARr := n_; clear n_; have n_ := Aside0.mk (below_step (by repeat (first | (with_reducible first | exact HB.out | apply below_alloc | apply pw_below_drewN | apply below_drew1) | exact HB.out)) hb); clear HB; have HB := n_; clear n_; clear hb) | ((with_reducible refine gate_dst (N := 6) rfl ?_); refine box_event ?hg (N := 6) ?hd (cs := #[.int .u8 0, .int .u8 0, .int .u8 0, .int .u8 0, .int .u8 0, .int .u8 0, .int .u8 0, .int .u8 0]) (t := 64) ?hr ?_; (case hd => rfl); (case hg => rfl); (case hr => first | (go_simp; done) | (go_simp; rfl)); intro ge hg w6 hbox hb; have GE_ge : Aside0 (w.heap.size ≤ ge) := ⟨by rw [hg]; exact below_size (by repeat (first | (with_reducible first | exact HB.out | apply below_alloc | apply pw_below_drewN | apply below_drew1) | exact HB.out))⟩; have NE_gr_ge : Aside0 (gr ≠ ge) := ⟨by have h_ := blk_lt (by (with_reducible repeat (first | refine ar_alloc ?_ _ | refine ar_drewN ?_ _ | refine ar_drew ?_)); exact ARr.out); have h2_ : ge = _ := hg; intro h3_; rw [h3_, h2_] at h_; exact Nat.lt_irrefl _ h_⟩; have n_ := Aside0.mk (ar_below (by (with_reducible repeat (first | refine ar_alloc ?_ _ | refine ar_drewN ?_ _ | refine ar_drew ?_)); exact ARr.out) hb); clear ARr; have ARr := n_; clear n_; have n_ := Aside0.mk (below_step (by repeat (first | (with_reducible first | exact HB.out | apply below_alloc | apply pw_below_drewN | apply below_drew1) | exact HB.out)) hb); clear HB; have HB := n_; clear n_; have ARe : Aside0 (Ar (Value.int .u8) 64 w6 ge (List.replicate 8 (0))) := ⟨hbox⟩; clear hbox hb hg) | ((with_reducible refine gate_dst (N := 7) rfl ?_); refine box_event ?hg (N := 7) ?hd (cs := #[.int .i64 0, .int .i64 0, .int .i64 0, .int .i64 0, .int .i64 0, .int .i64 0, .int .i64 0, .int .i64 0]) (t := 59) ?hr ?_; (case hd => rfl); (case hg => rfl); (case hr => first | (go_simp; done) | (go_simp; rfl)); intro go hg w7 hbox hb; have GE_go : Aside0 (w.heap.size ≤ go) := ⟨by rw [hg]; exact below_size (by repeat (first | (with_reducible first | exact HB.out | apply below_alloc | apply pw_below_drewN | apply below_drew1) | exact HB.out))⟩; have NE_gr_go : Aside0 (gr ≠ go) := ⟨by have h_ := blk_lt (by (with_reducible repeat (first | refine ar_alloc ?_ _ | refine ar_drewN ?_ _ | refine ar_drew ?_)); exact ARr.out); have h2_ : go = _ := hg; intro h3_; rw [h3_, h2_] at h_; exact Nat.lt_irrefl _ h_⟩; have NE_ge_go : Aside0 (ge ≠ go) := ⟨by have h_ := blk_lt (by (with_reducible repeat (first | refine ar_alloc ?_ _ | refine ar_drewN ?_ _ | refine ar_drew ?_)); exact ARe.out); have h2_ : go = _ := hg; intro h3_; rw [h3_, h2_] at h_; exact Nat.lt_irrefl _ h_⟩; have n_ := Aside0.mk (ar_below (by (with_reducible repeat (first | refine ar_alloc ?_ _ | refine ar_drewN ?_ _ | refine ar_drew ?_)); exact ARr.out) hb); clear ARr; have ARr := n_; clear n_; have n_ := Aside0.mk (ar_below (by (with_reducible repeat (first | refine ar_alloc ?_ _ | refine ar_drewN ?_ _ | refine ar_drew ?_)); exact ARe.out) hb); clear ARe; have ARe := n_; clear n_; have n_ := Aside0.mk (below_step (by repeat (first | (with_reducible first | exact HB.out | apply below_alloc | apply pw_below_drewN | apply below_drew1) | exact HB.out)) hb); clear HB; have HB := n_; clear n_; have ARo : Aside0 (Ar (Value.int .i64) 59 w7 go (List.replicate 8 (0))) := ⟨hbox⟩; clear hbox hb hg) | ((with_reducible refine gate_store (t := 64) (p := 6) rfl ?_); refine ar_store (by rfl) 64 _ _ (by rfl) ge ((((List.replicate 8 (0))).map (Value.int .u8))) (((permL n l1).map (Value.int .u8))) (by rfl) (by rfl) (by rfl) ARe.out (by simp [HPL.out]) (by rw [List.length_map, HPL.out]; kernel_rfl) (by intro v hv; obtain ⟨x, _, rfl⟩ := List.mem_map.1 hv; rfl) ?_; intro w8 hst hk hB_; have n_ := Aside0.mk (ar_kept (by (with_reducible repeat (first | refine ar_alloc ?_ _ | refine ar_drewN ?_ _ | refine ar_drew ?_)); exact ARr.out) hk (fun hs_ => NE_gr_ge.out hs_)); clear ARr; have ARr := n_; clear n_; have n_ := Aside0.mk (ar_kept (by (with_reducible repeat (first | refine ar_alloc ?_ _ | refine ar_drewN ?_ _ | refine ar_drew ?_)); exact ARo.out) hk (fun hs_ => (Ne.symm NE_ge_go.out) hs_)); clear ARo; have ARo := n_; clear n_; have n_ := Aside0.mk (hB_ _ _ (by repeat (first | (with_reducible first | exact HB.out | apply below_alloc | apply pw_below_drewN | apply below_drew1) | exact HB.out)) GE_ge.out); clear HB; have HB := n_; clear n_; clear ARe; have ARe := Aside0.mk hst; clear hst hk hB_) | ((with_reducible refine gate_store (t := 59) (p := 7) rfl ?_); refine ar_store (by rfl) 59 _ _ (by rfl) go ((((List.replicate 8 (0))).map (Value.int .i64))) ((((List.replicate 8 (0))).map (Value.int .i64))) (by rfl) (by rfl) (by rfl) ARo.out (by rfl) (by rw [List.length_map, List.length_replicate]; kernel_rfl) (by intro v hv; obtain ⟨x, _, rfl⟩ := List.mem_map.1 hv; rfl) ?_; intro w9 hst hk hB_; have n_ := Aside0.mk (ar_kept (by (with_reducible repeat (first | refine ar_alloc ?_ _ | refine ar_drewN ?_ _ | refine ar_drew ?_)); exact ARr.out) hk (fun hs_ => NE_gr_go.out hs_)); clear ARr; have ARr := n_; clear n_; have n_ := Aside0.mk (ar_kept (by (with_reducible repeat (first | refine ar_alloc ?_ _ | refine ar_drewN ?_ _ | refine ar_drew ?_)); exact ARe.out) hk (fun hs_ => NE_ge_go.out hs_)); clear ARe; have ARe := n_; clear n_; have n_ := Aside0.mk (hB_ _ _ (by repeat (first | (with_reducible first | exact HB.out | apply below_alloc | apply pw_below_drewN | apply below_drew1) | exact HB.out)) GE_go.out); clear HB; have HB := n_; clear n_; clear ARo; have ARo := Aside0.mk hst; clear hst hk hB_))
 obtain ⟨ends, hends⟩ : ∃ ends, permL n l1 = ends := ⟨_, rfl⟩
 rw [hends] at H' HPL
 have HEI := Aside0.mk (show In8 ends by rw [← hends]; exact HPI.out)
 replace ARe := Aside0.mk (show Ar (Value.int .u8) 64 w9 ge ends by have h_ := ARe.out; rw [hends] at h_; exact h_)
 replace ARr := Aside0.mk (show Ar (Value.int .i64) 59 w9 gr (List.replicate 8 0) from ARr.out)
 replace ARo := Aside0.mk (show Ar (Value.int .i64) 59 w9 go (l11.fill 0) from ARo.out)
 clear HPI hends
 go_loopg [9] 8 (fun gg v9 wr => ∃ x : Int, v9 = .int .i64 x ∧ Aside0 (0 ≤ x ∧ gg + x.toNat = 8) ∧ Aside0 (Ar (Value.int .i64) 59 wr go (l11.fill x.toNat)) ∧ Aside0 (Ar (Value.int .u8) 64 wr ge ends) ∧ Aside0 (Ar (Value.int .i64) 59 wr gr (List.replicate 8 0)) ∧ Aside0 (Below w.heap.size w wr))
 case atStart => exact ⟨0, by first | rfl | (simp; done), ⟨by omega⟩, ARo, ARe, ARr, HB⟩
 case round =>
  clear ARo ARe ARr HB
  obtain ⟨x, rfl, HK, ARo, ARe, ARr, HB⟩ := hrel
  by_cases hx : x < 8
  ·have k1 : decide (x < 8) = true := decide_eq_true hx
   have hxx : 0 ≤ x ∧ x < 8 := ⟨HK.out.1, hx⟩
   have HX := Aside0.mk hxx
   obtain ⟨hz, hzf⟩ := ar_rd (0 : Int) ARo.out x 8 (l11.fill_length _) hxx.1 hxx.2
   have p1 := eq_true hxx.1
   have q1 := eq_true hxx.2
   have d1 : decide (0 ≤ x) = true := decide_eq_true hxx.1
   clear hx hxx
   go_wp2_with (first | ((with_reducible refine gate_store (t := 2) (p := 21) rfl ?_); refine store_event (t := 2) (p := 21) (v := ?vo_w10) (w1 := (World.setCell wr ⟨go, (x : Int).toNat, none⟩ ((Value.int .i64) (-1)))) ?hg ?ho ?hn ?hr ?_; (case ho => rfl); (case hg => rfl); (case hn => rfl); (case hr => first | (go_simp; done) | (go_simp; rfl)); intro w10 hw; have hk : Kept wr w10 (fun k_ => k_ = go) := (by rw [hw]; exact (Kept.setCell (S := fun k_ => k_ = go) (Kept.refl _ _) (p := ⟨go, _, none⟩) (Or.inl rfl) _)); have hB_ : Below w.heap.size w w10 := (by rw [hw]; exact below_set HB.out GE_go.out); have n_ := Aside0.mk (ar_put ARo.out (x : Int).toNat (-1) hw); clear ARo; have ARo := n_; clear n_; have n_ := Aside0.mk (ar_kept (by (with_reducible repeat (first | refine ar_alloc ?_ _ | refine ar_drewN ?_ _ | refine ar_drew ?_)); exact ARr.out) hk (fun hs_ => NE_gr_go.out hs_)); clear ARr; have ARr := n_; clear n_; have n_ := Aside0.mk (ar_kept (by (with_reducible repeat (first | refine ar_alloc ?_ _ | refine ar_drewN ?_ _ | refine ar_drew ?_)); exact ARe.out) hk (fun hs_ => NE_ge_go.out hs_)); clear ARe; have ARe := n_; clear n_; clear HB; have HB := Aside0.mk hB_; clear hk hB_ hw))
   go_roundg (8 - (x.toNat + 1))
   case measure => have := HK.out; have := HX.out; omega
   case rel =>
    have HW := Aside0.mk (show wrap64 (x + 1) = x + 1 by have := HX.out; unfold wrap64; omega)
    exact ⟨wrap64 (x + 1), (by first | rfl | (simp; done) | (simp [*]; done)), ⟨by have := HK.out; have := HX.out; rw [HW.out]; omega⟩, ⟨by have h1 := ARo.out; rw [HW.out, show (x + 1).toNat = x.toNat + 1 by have := HX.out; omega, l11.fill]; exact h1⟩, ARe, ARr, HB⟩
  ·have k1 : decide (x < 8) = false := decide_eq_false hx
   have ex : x.toNat = 8 := by have := HK.out; omega
   have h1 := ARo.out
   rw [ex] at h1
   clear ARo hx
   have ARo := Aside0.mk h1
   have HFL := Aside0.mk (l11.fill_length 8)
   clear h1 ex HK
   generalize l11.fill 8 = out0 at ARo HFL H'
   go_wp2
   go_loopg [8, 10] k (fun kq v8 v10 wr => ∃ (out : List Int) (x c : Int), v8 = .int .i64 c ∧ v10 = .int .i64 x ∧ Aside0 (l11.l0 n ends kq out x c = some r) ∧ Aside0 (kq ≤ k) ∧ Aside0 ((0 ≤ x ∧ x ≤ n) ∧ (0 ≤ c ∧ c ≤ x)) ∧ Aside0 (out.length = 8) ∧ Aside0 (Ar (Value.int .i64) 59 wr go out) ∧ Aside0 (Ar (Value.int .u8) 64 wr ge ends) ∧ Aside0 (Ar (Value.int .i64) 59 wr gr (List.replicate 8 0)) ∧ Aside0 (Below w.heap.size w wr))
   case atStart => exact ⟨out0, 0, 0, (by first | rfl | (simp; done) | (simp [*]; done)), (by first | rfl | (simp; done) | (simp [*]; done)), H', ⟨Nat.le_refl _⟩, ⟨by have := HN.out; omega⟩, HFL, ARo, ARe, ARr, HB⟩
   case round =>
    clear ARo ARe ARr HB H' HFL k1
    obtain ⟨out, x, c, rfl, rfl, HA, HK1, HX, HOL, ARo, ARe, ARr, HB⟩ := hrel
    cases gk with
    | zero => exact absurd HA.out (by simp [l11.l0])
    | succ k1 =>
     have H := HA.out
     clear HA
     simp only [l11.l0] at H
     by_cases c1_ : x < n
     ·rw [if_pos c1_] at H
      have c1b : decide (x < n) = true := decide_eq_true c1_
      have hxx : 0 ≤ x ∧ x < 8 := by have := HX.out; have := HN.out; omega
      have HX8 := Aside0.mk hxx
      have HXN := Aside0.mk c1_
      obtain ⟨hz, hzf⟩ := ar_rd (0 : Int) ARo.out x 8 HOL.out hxx.1 hxx.2
      replace hz : wr.cell? ⟨go, x.toNat, none⟩ = some (.int .i64 (rd out x)) := hz
      have p1 := eq_true hxx.1
      have q1 := eq_true hxx.2
      have d1 : decide (0 ≤ x) = true := decide_eq_true hxx.1
      have d2 : decide (x < 8) = true := decide_eq_true hxx.2
      clear hxx c1_
      by_cases c2_ : 0 ≤ rd out x
      ·rw [if_pos c2_] at H
       have c2b : decide (0 ≤ rd out x) = true := decide_eq_true c2_
       clear c2_
       have H' := Aside0.mk H
       clear H
       go_wp2
       go_roundg k1
       case measure => have := HK1.out; omega
       case rel =>
        have HW := Aside0.mk (show wrap64 (x + 1) = x + 1 by have := HX8.out; unfold wrap64; omega)
        exact ⟨out, wrap64 (x + 1), c, (by first | rfl | (simp; done) | (simp [*]; done)), (by first | rfl | (simp; done) | (simp [*]; done)), ⟨by rw [HW.out]; exact H'.out⟩, ⟨by have := HK1.out; omega⟩, ⟨by have := HX.out; have := HXN.out; rw [HW.out]; omega⟩, HOL, ARo, ARe, ARr, HB⟩
      ·rw [if_neg c2_] at H
       have c2b : decide (0 ≤ rd out x) = false := decide_eq_false c2_
       clear c2_
       have H' := Aside0.mk H
       clear H
       go_wp2
       clear hz hzf p1 q1 d1 d2 c2b
       go_loopg [11] k1 (fun kq v11 wr => ∃ (out : List Int) (y : Int), v11 = .int .i64 y ∧ Aside0 (l11.l1 n ends kq out x c y = some r) ∧ Aside0 (kq ≤ k1) ∧ Aside0 (0 ≤ y ∧ y < 8) ∧ Aside0 (out.length = 8) ∧ Aside0 (Ar (Value.int .i64) 59 wr go out) ∧ Aside0 (Ar (Value.int .u8) 64 wr ge ends) ∧ Aside0 (Ar (Value.int .i64) 59 wr gr (List.replicate 8 0)) ∧ Aside0 (Below w.heap.size w wr))
       case atStart => exact ⟨out, x, (by first | rfl | (simp; done) | (simp [*]; done)), H', ⟨Nat.le_refl _⟩, HX8, HOL, ARo, ARe, ARr, HB⟩
       case round =>
        clear ARo ARe ARr HB H' HOL
        obtain ⟨out, y, rfl, HA, HK2, HY, HOL, ARo, ARe, ARr, HB⟩ := hrel
        cases gk with
        | zero => exact absurd HA.out (by simp [l11.l1])
        | succ k2 =>
         have H := HA.out
         clear HA
         simp only [l11.l1] at H
         obtain ⟨hz, hzf⟩ := ar_rd (0 : Int) ARo.out y 8 HOL.out HY.out.1 HY.out.2
         replace hz : wr.cell? ⟨go, y.toNat, none⟩ = some (.int .i64 (rd out y)) := hz
         have p1 := eq_true HY.out.1
         have q1 := eq_true HY.out.2
         have d1 : decide (0 ≤ y) = true := decide_eq_true HY.out.1
         have d2 : decide (y < 8) = true := decide_eq_true HY.out.2
         by_cases c3_ : rd out y < 0
         ·rw [if_pos c3_] at H
          have c3b : decide (rd out y < 0) = true := decide_eq_true c3_
          clear c3_
          have H' := Aside0.mk H
          clear H
          have HEY := Aside0.mk (HEI.out.at_ HY.out.1 HY.out.2)
          have hei := HEI.out.at_ HY.out.1 HY.out.2
          obtain ⟨ey, hey⟩ : ∃ ey, rd ends y = ey := ⟨_, rfl⟩
          rw [hey] at HEY H' hei
          have HEQ := Aside0.mk hey
          have hew : wrap64 ey = ey := by unfold wrap64; omega
          have hew2 : IntKind.i64.wrap ey = ey := (i64_w _).trans hew
          have HEW := Aside0.mk hew
          clear hew hei hey
          go_wp2_with (first | ((with_reducible refine gate_store (t := 2) (p := 42) rfl ?_); refine store_event (t := 2) (p := 42) (v := ?vo_w11) (w1 := (World.setCell wr ⟨go, (y : Int).toNat, none⟩ ((Value.int .i64) (c)))) ?hg ?ho ?hn ?hr ?_; (case ho => rfl); (case hg => rfl); (case hn => rfl); (case hr => first | (go_simp; done) | (go_simp; rfl)); intro w11 hw; have hk : Kept wr w11 (fun k_ => k_ = go) := (by rw [hw]; exact (Kept.setCell (S := fun k_ => k_ = go) (Kept.refl _ _) (p := ⟨go, _, none⟩) (Or.inl rfl) _)); have hB_ : Below w.heap.size w w11 := (by rw [hw]; exact below_set HB.out GE_go.out); have n_ := Aside0.mk (ar_put ARo.out (y : Int).toNat (c) hw); clear ARo; have ARo := n_; clear n_; have n_ := Aside0.mk (ar_kept (by (with_reducible repeat (first | refine ar_alloc ?_ _ | refine ar_drewN ?_ _ | refine ar_drew ?_)); exact ARr.out) hk (fun hs_ => NE_gr_go.out hs_)); clear ARr; have ARr := n_; clear n_; have n_ := Aside0.mk (ar_kept (by (with_reducible repeat (first | refine ar_alloc ?_ _ | refine ar_drewN ?_ _ | refine ar_drew ?_)); exact ARe.out) hk (fun hs_ => NE_ge_go.out hs_)); clear ARe; have ARe := n_; clear n_; clear HB; have HB := Aside0.mk hB_; clear hk hB_ hw; have he2 : w11.cell? ⟨ge, y.toNat, none⟩ = some (.int .u8 ey) := (by rw [← HEQ.out]; exact (ar_rd (0 : Int) ARe.out y 8 HPL.out HY.out.1 HY.out.2).1)))
          go_roundg k2
          case measure => have := HK1.out; have := HK2.out; omega
          case rel => exact ⟨out.set y.toNat c, ey, (by first | rfl | (simp; done) | (simp [*]; done)), H', ⟨by have := HK2.out; omega⟩, ⟨by have := HEY.out; omega⟩, ⟨by rw [List.length_set]; exact HOL.out⟩, ARo, ARe, ARr, HB⟩
         ·rw [if_neg c3_] at H
          have c3b : decide (rd out y < 0) = false := decide_eq_false c3_
          clear c3_
          have H' := Aside0.mk H
          clear H
          go_wp2
          go_roundg k2
          case measure => have := HK1.out; have := HK2.out; omega
          case rel =>
           have HW := Aside0.mk (show wrap64 (x + 1) = x + 1 by have := HX8.out; unfold wrap64; omega)
           have HW2 := Aside0.mk (show wrap64 (c + 1) = c + 1 by have := HX8.out; have := HX.out; unfold wrap64; omega)
           exact ⟨out, wrap64 (x + 1), wrap64 (c + 1), (by first | rfl | (simp; done) | (simp [*]; done)), (by first | rfl | (simp; done) | (simp [*]; done)), ⟨by rw [HW.out, HW2.out]; exact H'.out⟩, ⟨by have := HK1.out; have := HK2.out; omega⟩, ⟨by have := HX.out; have := HXN.out; rw [HW.out, HW2.out]; omega⟩, HOL, ARo, ARe, ARr, HB⟩
     ·rw [if_neg c1_, Option.some.injEq] at H
      have c1b : decide (x < n) = false := decide_eq_false c1_
      clear c1_
      subst H
      go_wp2_with (first | ((with_reducible refine gate_dst (N := 45) rfl ?_); refine ar_load (by rfl) 59 _ (by rfl) go (((out).map (Value.int .i64))) _ (by rfl) ARo.out hu8 rfl (by rw [List.length_map, HOL.out]; kernel_rfl) ?_) | ((with_reducible refine gate_store (t := 59) (p := 4) rfl ?_); refine ar_store (by rfl) 59 _ _ (by rfl) gr ((((List.replicate 8 (0))).map (Value.int .i64))) (((out).map (Value.int .i64))) (by rfl) (by rfl) (by rfl) ARr.out (by simp [HOL.out]) (by rw [List.length_map, HOL.out]; kernel_rfl) (by intro v hv; obtain ⟨x, _, rfl⟩ := List.mem_map.1 hv; rfl) ?_; intro w12 hst hk hB_; have n_ := Aside0.mk (ar_kept (by (with_reducible repeat (first | refine ar_alloc ?_ _ | refine ar_drewN ?_ _ | refine ar_drew ?_)); exact ARe.out) hk (fun hs_ => (Ne.symm NE_gr_ge.out) hs_)); clear ARe; have ARe := n_; clear n_; have n_ := Aside0.mk (ar_kept (by (with_reducible repeat (first | refine ar_alloc ?_ _ | refine ar_drewN ?_ _ | refine ar_drew ?_)); exact ARo.out) hk (fun hs_ => (Ne.symm NE_gr_go.out) hs_)); clear ARo; have ARo := n_; clear n_; have n_ := Aside0.mk (hB_ _ _ (by repeat (first | (with_reducible first | exact HB.out | apply below_alloc | apply pw_below_drewN | apply below_drew1) | exact HB.out)) GE_gr.out); clear HB; have HB := n_; clear n_; clear ARr; have ARr := Aside0.mk hst; clear hst hk hB_))
      refine bodyPost_ret (results_ct rfl _ _ gr 59 _ (0, 0) _ (by rfl) ARr.out hu8 rfl (by rw [List.size_toArray, List.length_map, HOL.out]; kernel_rfl)) rfl ?_
      exact ⟨⟨HOL.out, by have := HX.out; have := HN.out; omega⟩, rfl, (by repeat (first | (with_reducible first | exact HB.out | apply below_alloc | apply pw_below_drewN | apply below_drew1) | exact HB.out))⟩


end Go.Proofs.Ytcbomfkimohlfaa.MFnExactComponentLinkings
