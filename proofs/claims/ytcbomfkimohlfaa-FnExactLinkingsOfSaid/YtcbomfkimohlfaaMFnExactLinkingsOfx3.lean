-- Walks of the functions that a law reaches, one after the other: plain functions, and that the machine's calls come to what they tell (wip/tools/myprint.py of this repo).
import Derived.Test.YtcbomfkimohlfaaMFnExactLinkingsOfx0
import Derived.Test.YtcbomfkimohlfaaMFnExactLinkingsOfx2
import Derived.Test.YtcbomfkimohlfaaLibArr
import Derived.Test.YtcbomfkimohlfaaLibMx
import Derived.Test.YtcbomfkimohlfaaLibCr
namespace Go.Proofs.Ytcbomfkimohlfaa.MFnExactLinkingsOf
open Go.RowKit Go.Proofs.YtcbomfkimohlfaaW.PrintWords Go.Proofs.YtcbomfkimohlfaaW.PrintLast Go.Proofs.YtcbomfkimohlfaaW.PrintMore
open Go.Proofs.Ytcbomfkimohlfaa.LibCr
open Go.Proofs.Ytcbomfkimohlfaa.LibMx
open Go.Proofs.Ytcbomfkimohlfaa.LibArr
attribute [local go_sem] max2_int min2_int max_two min_two max_three min_three max_four min_four   -- for this text's walks alone
set_option linter.unusedVariables false
set_option linter.unusedSimpArgs false

/-! ### spec_l01Crossings: function 65 -/
theorem infoInt : (Try.prog.info? 2).map (fun i => (i.zero, i.size, i.bytes)) = some (some (.int .i64 0), 1, 8) := by kernel_rfl
theorem infoRow : (Try.prog.info? 22).map (fun i => (i.zero, i.size, i.bytes)) = some (some (.slice none 0 0), 1, 24) := by kernel_rfl
theorem fillL_cr : ∀ k, fillL k = cr.fill k
  | 0 => rfl
  | k + 1 => by simp only [fillL, cr.fill, fillL_cr k]
def spec_l01Crossings.T9 : Bool × List (List Nat × List Nat) := (true, [([], []), ([0], [0]), ([1], [1]), ([2], [2]), ([], []), ([4], [4]), ([5], [5]), ([3, 0, 1, 2, 3], [3]), ([6, 7, 0, 1, 2, 3, 4, 5, 6, 7], [6])])
def spec_l01Crossings.B9 : List Nat := [0, 1, 3, 7, 0, 16, 48, 15, 255]
theorem spec_l01Crossings.tab9 : rtab .any (opsOf Try.f65 9) = spec_l01Crossings.T9 := by kernel_rfl
theorem spec_l01Crossings.bits9 : waitsOk spec_l01Crossings.T9.2 spec_l01Crossings.B9 = true := by kernel_rfl
def spec_l01Crossings.T10 : Bool × List (List Nat × List Nat) := (true, [([], []), ([], []), ([], []), ([], []), ([2], [2]), ([4, 3], [3, 4]), ([5], [5]), ([], []), ([6, 7], [6, 7]), ([0], [0]), ([9, 1, 0, 1, 2, 3, 4, 5, 6, 7, 8], [1, 9]), ([10, 8, 0, 1, 2, 3, 4, 5, 6, 7, 8], [8, 10])])
def spec_l01Crossings.B10 : List Nat := [0, 0, 0, 0, 4, 28, 60, 0, 252, 1, 1023, 2047]
theorem spec_l01Crossings.tab10 : rtab .any (opsOf Try.f65 10) = spec_l01Crossings.T10 := by kernel_rfl
theorem spec_l01Crossings.bits10 : waitsOk spec_l01Crossings.T10.2 spec_l01Crossings.B10 = true := by kernel_rfl
def spec_l01Crossings.T11 : Bool × List (List Nat × List Nat) := (true, [([], []), ([], []), ([], []), ([], []), ([2], [2]), ([4, 3], [3, 4]), ([5], [5]), ([], []), ([6, 7], [6, 7]), ([0], [0]), ([9, 1, 0, 1, 2, 3, 4, 5, 6, 7, 8], [1, 9]), ([10, 8, 0, 1, 2, 3, 4, 5, 6, 7, 8], [8, 10])])
def spec_l01Crossings.B11 : List Nat := [0, 0, 0, 0, 4, 28, 60, 0, 252, 1, 1023, 2047]
theorem spec_l01Crossings.tab11 : rtab .any (opsOf Try.f65 11) = spec_l01Crossings.T11 := by kernel_rfl
theorem spec_l01Crossings.bits11 : waitsOk spec_l01Crossings.T11.2 spec_l01Crossings.B11 = true := by kernel_rfl
set_option maxHeartbeats 8000000 in
set_option maxRecDepth 100000 in
theorem cross_calls (n : Int) (hn : 1 ≤ n ∧ n ≤ 8) (A1 : Option Addr) (c1 : Nat) (l1 : List Int) (hg : cr.good l1) (w : World) (hr1 : Kd.C (Kd.int .i64) w A1 l1.length l1) (hc1 : l1.length ≤ c1) :
    Calls Try.prog 65 #[.int .i64 n, .slice A1 l1.length c1] w fun e w' => e = .returned (.agg ((cr.runT l1 (cr.fill n.toNat) (List.replicate 64 0)).map (Value.int .i64)).toArray) ∧ Below w.heap.size w w' := by
  have hu := Try.underlying60
  have hu5 := Try.underlying64
  have hu6 := Try.underlying59
  have hu7 := Try.underlying5
  have HR1 := Aside0.mk hr1
  have HC1 := Aside0.mk hc1
  have HG := Aside0.mk hg
  have HN := Aside0.mk hn
  clear hr1 hc1 hg hn
  have HB := Aside0.mk (Below.refl w.heap.size w)
  obtain ⟨FT, hFT⟩ : ∃ x, cr.runT l1 (cr.fill n.toNat) (List.replicate 64 0) = x := ⟨_, rfl⟩
  have HFT := Aside0.mk hFT
  rw [hFT]
  clear hFT
  go_enter Try.func65, Try.ntmps65
  go_wp2_with (first | ((with_reducible refine gate_dst (N := 4) rfl ?_); refine box_event ?hg (N := 4) ?hd (cs := #[.int .i64 0, .int .i64 0, .int .i64 0, .int .i64 0, .int .i64 0, .int .i64 0, .int .i64 0, .int .i64 0, .int .i64 0, .int .i64 0, .int .i64 0, .int .i64 0, .int .i64 0, .int .i64 0, .int .i64 0, .int .i64 0, .int .i64 0, .int .i64 0, .int .i64 0, .int .i64 0, .int .i64 0, .int .i64 0, .int .i64 0, .int .i64 0, .int .i64 0, .int .i64 0, .int .i64 0, .int .i64 0, .int .i64 0, .int .i64 0, .int .i64 0, .int .i64 0, .int .i64 0, .int .i64 0, .int .i64 0, .int .i64 0, .int .i64 0, .int .i64 0, .int .i64 0, .int .i64 0, .int .i64 0, .int .i64 0, .int .i64 0, .int .i64 0, .int .i64 0, .int .i64 0, .int .i64 0, .int .i64 0, .int .i64 0, .int .i64 0, .int .i64 0, .int .i64 0, .int .i64 0, .int .i64 0, .int .i64 0, .int .i64 0, .int .i64 0, .int .i64 0, .int .i64 0, .int .i64 0, .int .i64 0, .int .i64 0, .int .i64 0, .int .i64 0]) (t := 60) ?hr ?_; (case hd => rfl); (case hg => rfl); (case hr => first | (go_simp; done) | (go_simp; rfl)); intro g4 hg w4 hbox hb; have GE_g4 : Aside0 (w.heap.size ≤ g4) := ⟨by rw [hg]; exact below_size (by repeat (first | (with_reducible first | exact HB.out | apply below_alloc | apply pw_below_drewN | apply below_drew1) | exact HB.out))⟩; have n_ := Aside0.mk (below_step (by repeat (first | (with_reducible first | exact HB.out | apply below_alloc | apply pw_below_drewN | apply below_drew1) | exact HB.out)) hb); clear HB; have HB := n_; clear n_; have AR4 : Aside0 (Ar (Value.int .i64) 60 w4 g4 (List.replicate 64 (0))) := ⟨hbox⟩; clear hbox hb hg) | ((with_reducible refine gate_callee (f := 94) rfl ?_); refine goesL_ (some 14) rfl rfl Try.func94 (by kernel_rfl) rfl #[.int .i64 n, .slice none 0 0] rfl (by (try simp only [List.map_toArray, List.map_cons, List.map_nil]); first | done | rfl) ?_; (refine (strands_calls n (by have := HN.out; omega) none 0 [] (by simp) _ ?side1 (Nat.le_refl _)).mono ?_); (case side1 => exact Kd.C_nil _ _); rintro e wi ⟨rfl, hb⟩; refine ⟨_, rfl, ?_⟩; have n_ := Aside0.mk (ar_below (by (with_reducible repeat (first | refine ar_alloc ?_ _ | refine ar_drewN ?_ _ | refine ar_drew ?_)); exact AR4.out) hb); clear AR4; have AR4 := n_; clear n_; have n_ := Aside0.mk (below_step (by repeat (first | (with_reducible first | exact HB.out | apply below_alloc | apply pw_below_drewN | apply below_drew1) | exact HB.out)) hb); clear HB; have HB := n_; clear n_; clear hb) | ((with_reducible refine gate_dst (N := 5) rfl ?_); refine box_event ?hg (N := 5) ?hd (cs := #[.int .i64 0, .int .i64 0, .int .i64 0, .int .i64 0, .int .i64 0, .int .i64 0, .int .i64 0, .int .i64 0, .int .i64 0, .int .i64 0, .int .i64 0, .int .i64 0, .int .i64 0, .int .i64 0, .int .i64 0, .int .i64 0, .int .i64 0, .int .i64 0, .int .i64 0, .int .i64 0, .int .i64 0, .int .i64 0, .int .i64 0, .int .i64 0, .int .i64 0, .int .i64 0, .int .i64 0, .int .i64 0, .int .i64 0, .int .i64 0, .int .i64 0, .int .i64 0, .int .i64 0, .int .i64 0, .int .i64 0, .int .i64 0, .int .i64 0, .int .i64 0, .int .i64 0, .int .i64 0, .int .i64 0, .int .i64 0, .int .i64 0, .int .i64 0, .int .i64 0, .int .i64 0, .int .i64 0, .int .i64 0, .int .i64 0, .int .i64 0, .int .i64 0, .int .i64 0, .int .i64 0, .int .i64 0, .int .i64 0, .int .i64 0, .int .i64 0, .int .i64 0, .int .i64 0, .int .i64 0, .int .i64 0, .int .i64 0, .int .i64 0, .int .i64 0]) (t := 60) ?hr ?_; (case hd => rfl); (case hg => rfl); (case hr => first | (go_simp; done) | (go_simp; rfl)); intro g5 hg w5 hbox hb; have GE_g5 : Aside0 (w.heap.size ≤ g5) := ⟨by rw [hg]; exact below_size (by repeat (first | (with_reducible first | exact HB.out | apply below_alloc | apply pw_below_drewN | apply below_drew1) | exact HB.out))⟩; have NE_g4_g5 : Aside0 (g4 ≠ g5) := ⟨by have h_ := blk_lt (by (with_reducible repeat (first | refine ar_alloc ?_ _ | refine ar_drewN ?_ _ | refine ar_drew ?_)); exact AR4.out); have h2_ : g5 = _ := hg; intro h3_; rw [h3_, h2_] at h_; exact Nat.lt_irrefl _ h_⟩; have n_ := Aside0.mk (ar_below (by (with_reducible repeat (first | refine ar_alloc ?_ _ | refine ar_drewN ?_ _ | refine ar_drew ?_)); exact AR4.out) hb); clear AR4; have AR4 := n_; clear n_; have n_ := Aside0.mk (below_step (by repeat (first | (with_reducible first | exact HB.out | apply below_alloc | apply pw_below_drewN | apply below_drew1) | exact HB.out)) hb); clear HB; have HB := n_; clear n_; have AR5 : Aside0 (Ar (Value.int .i64) 60 w5 g5 (List.replicate 64 (0))) := ⟨hbox⟩; clear hbox hb hg) | ((with_reducible refine gate_dst (N := 6) rfl ?_); refine box_event ?hg (N := 6) ?hd (cs := #[.int .u8 0, .int .u8 0, .int .u8 0, .int .u8 0, .int .u8 0, .int .u8 0, .int .u8 0, .int .u8 0]) (t := 64) ?hr ?_; (case hd => rfl); (case hg => rfl); (case hr => first | (go_simp; done) | (go_simp; rfl)); intro g6 hg w6 hbox hb; have GE_g6 : Aside0 (w.heap.size ≤ g6) := ⟨by rw [hg]; exact below_size (by repeat (first | (with_reducible first | exact HB.out | apply below_alloc | apply pw_below_drewN | apply below_drew1) | exact HB.out))⟩; have NE_g4_g6 : Aside0 (g4 ≠ g6) := ⟨by have h_ := blk_lt (by (with_reducible repeat (first | refine ar_alloc ?_ _ | refine ar_drewN ?_ _ | refine ar_drew ?_)); exact AR4.out); have h2_ : g6 = _ := hg; intro h3_; rw [h3_, h2_] at h_; exact Nat.lt_irrefl _ h_⟩; have NE_g5_g6 : Aside0 (g5 ≠ g6) := ⟨by have h_ := blk_lt (by (with_reducible repeat (first | refine ar_alloc ?_ _ | refine ar_drewN ?_ _ | refine ar_drew ?_)); exact AR5.out); have h2_ : g6 = _ := hg; intro h3_; rw [h3_, h2_] at h_; exact Nat.lt_irrefl _ h_⟩; have n_ := Aside0.mk (ar_below (by (with_reducible repeat (first | refine ar_alloc ?_ _ | refine ar_drewN ?_ _ | refine ar_drew ?_)); exact AR4.out) hb); clear AR4; have AR4 := n_; clear n_; have n_ := Aside0.mk (ar_below (by (with_reducible repeat (first | refine ar_alloc ?_ _ | refine ar_drewN ?_ _ | refine ar_drew ?_)); exact AR5.out) hb); clear AR5; have AR5 := n_; clear n_; have n_ := Aside0.mk (below_step (by repeat (first | (with_reducible first | exact HB.out | apply below_alloc | apply pw_below_drewN | apply below_drew1) | exact HB.out)) hb); clear HB; have HB := n_; clear n_; have AR6 : Aside0 (Ar (Value.int .u8) 64 w6 g6 (List.replicate 8 (0))) := ⟨hbox⟩; clear hbox hb hg) | ((with_reducible refine gate_store (t := 60) (p := 5) rfl ?_); refine ar_store (by rfl) 60 _ _ (by rfl) g5 ((((List.replicate 64 (0))).map (Value.int .i64))) ((((List.replicate 64 (0))).map (Value.int .i64))) (by rfl) (by rfl) (by rfl) AR5.out (by rfl) (by skip; kernel_rfl) (by intro v hv; obtain ⟨x, _, rfl⟩ := List.mem_map.1 hv; rfl) ?_; intro w7 hst hk hB_; have n_ := Aside0.mk (ar_kept (by (with_reducible repeat (first | refine ar_alloc ?_ _ | refine ar_drewN ?_ _ | refine ar_drew ?_)); exact AR4.out) hk (fun hs_ => NE_g4_g5.out hs_)); clear AR4; have AR4 := n_; clear n_; have n_ := Aside0.mk (ar_kept (by (with_reducible repeat (first | refine ar_alloc ?_ _ | refine ar_drewN ?_ _ | refine ar_drew ?_)); exact AR6.out) hk (fun hs_ => (Ne.symm NE_g5_g6.out) hs_)); clear AR6; have AR6 := n_; clear n_; have n_ := Aside0.mk (hB_ _ _ (by repeat (first | (with_reducible first | exact HB.out | apply below_alloc | apply pw_below_drewN | apply below_drew1) | exact HB.out)) GE_g5.out); clear HB; have HB := n_; clear n_; clear AR5; have AR5 := Aside0.mk hst; clear hst hk hB_) | ((with_reducible refine gate_store (t := 64) (p := 6) rfl ?_); refine ar_store (by rfl) 64 _ _ (by rfl) g6 ((((List.replicate 8 (0))).map (Value.int .u8))) (((fillL n.toNat).map (Value.int .u8))) (by rfl) (by rfl) (by rfl) AR6.out (by simp [(fillL_in n.toNat (by have := HN.out; omega)).1]) (by rw [List.length_map, (fillL_in n.toNat (by have := HN.out; omega)).1]; kernel_rfl) (by intro v hv; obtain ⟨x, _, rfl⟩ := List.mem_map.1 hv; rfl) ?_; intro w8 hst hk hB_; have n_ := Aside0.mk (ar_kept (by (with_reducible repeat (first | refine ar_alloc ?_ _ | refine ar_drewN ?_ _ | refine ar_drew ?_)); exact AR4.out) hk (fun hs_ => NE_g4_g6.out hs_)); clear AR4; have AR4 := n_; clear n_; have n_ := Aside0.mk (ar_kept (by (with_reducible repeat (first | refine ar_alloc ?_ _ | refine ar_drewN ?_ _ | refine ar_drew ?_)); exact AR5.out) hk (fun hs_ => NE_g5_g6.out hs_)); clear AR5; have AR5 := n_; clear n_; have n_ := Aside0.mk (hB_ _ _ (by repeat (first | (with_reducible first | exact HB.out | apply below_alloc | apply pw_below_drewN | apply below_drew1) | exact HB.out)) GE_g6.out); clear HB; have HB := n_; clear n_; clear AR6; have AR6 := Aside0.mk hst; clear hst hk hB_))
  have n_ : Aside0 (Ar (Value.int .u8) 64 w8 g6 (cr.fill n.toNat)) := ⟨by rw [← fillL_cr]; exact AR6.out⟩
  clear AR6
  have AR6 := n_
  clear n_
  go_loopg [7] (l1.length + 1) (fun kq v7 wr => ∃ (i : Int) (q : Nat) (xs T : List Int), v7 = .int .i64 i ∧ Aside0 (q < kq) ∧ Aside0 ((q : Int) + i = (l1.length : Int) ∧ 0 ≤ i) ∧ Aside0 (cr.runT (l1.drop i.toNat) xs T = FT) ∧ Aside0 (cr.In8 xs) ∧ Aside0 (T.length = 64) ∧ Aside0 (Ar (Value.int .i64) 60 wr g4 (List.replicate 64 (0))) ∧ Aside0 (Ar (Value.int .i64) 60 wr g5 T) ∧ Aside0 (Ar (Value.int .u8) 64 wr g6 xs) ∧ Aside0 (Below w.heap.size w wr))
  case atStart => exact ⟨0, l1.length, cr.fill n.toNat, List.replicate 64 0, (by first | rfl | (simp; done) | (simp [*]; done)), ⟨by omega⟩, ⟨by omega⟩, HFT, ⟨cr.fill_in n.toNat (by have := HN.out; omega)⟩, ⟨by simp⟩, ⟨(by (with_reducible repeat (first | refine ar_alloc ?_ _ | refine ar_drewN ?_ _ | refine ar_drew ?_)); exact AR4.out)⟩, ⟨(by (with_reducible repeat (first | refine ar_alloc ?_ _ | refine ar_drewN ?_ _ | refine ar_drew ?_)); exact AR5.out)⟩, ⟨(by (with_reducible repeat (first | refine ar_alloc ?_ _ | refine ar_drewN ?_ _ | refine ar_drew ?_)); exact AR6.out)⟩, ⟨(by repeat (first | (with_reducible first | exact HB.out | apply below_alloc | apply pw_below_drewN | apply below_drew1) | exact HB.out))⟩⟩
  case round =>
    clear AR4 AR5 AR6 HB HFT
    obtain ⟨i, q, xs, T, rfl, HQ, HI, HA, HXS, HTL, AR4, AR5, AR6, HB⟩ := hrel
    cases gk with
    | zero => exact absurd HQ.out (Nat.not_lt_zero _)
    | succ k1_ =>
    cases q with
    | zero =>
      have cib : decide (i < (l1.length : Int)) = false := decide_eq_false (by have := HI.out; omega)
      have HF : Aside0 (T = FT) := ⟨by have h_ := HA.out; rw [List.drop_of_length_le (by have := HI.out; omega)] at h_; exact h_⟩
      have HFL : Aside0 (FT.length = 64) := ⟨by rw [← HF.out]; exact HTL.out⟩
      have n_ : Aside0 (Ar (Value.int .i64) 60 wr g5 FT) := ⟨by rw [← HF.out]; exact AR5.out⟩
      clear AR5
      have AR5 := n_
      clear n_
      go_wp2_with (first | ((with_reducible refine gate_dst (N := 65) rfl ?_); refine ar_load (by rfl) 60 _ (by rfl) g5 (((FT).map (Value.int .i64))) _ (by rfl) AR5.out hu rfl (by rw [List.length_map, HFL.out]; kernel_rfl) ?_) | ((with_reducible refine gate_store (t := 60) (p := 4) rfl ?_); refine ar_store (by rfl) 60 _ _ (by rfl) g4 ((((List.replicate 64 (0))).map (Value.int .i64))) (((FT).map (Value.int .i64))) (by rfl) (by rfl) (by rfl) AR4.out (by simp [HFL.out]) (by rw [List.length_map, HFL.out]; kernel_rfl) (by intro v hv; obtain ⟨x, _, rfl⟩ := List.mem_map.1 hv; rfl) ?_; intro w17 hst hk hB_; have n_ := Aside0.mk (ar_kept (by (with_reducible repeat (first | refine ar_alloc ?_ _ | refine ar_drewN ?_ _ | refine ar_drew ?_)); exact AR5.out) hk (fun hs_ => (Ne.symm NE_g4_g5.out) hs_)); clear AR5; have AR5 := n_; clear n_; have n_ := Aside0.mk (ar_kept (by (with_reducible repeat (first | refine ar_alloc ?_ _ | refine ar_drewN ?_ _ | refine ar_drew ?_)); exact AR6.out) hk (fun hs_ => (Ne.symm NE_g4_g6.out) hs_)); clear AR6; have AR6 := n_; clear n_; have n_ := Aside0.mk (hB_ _ _ (by repeat (first | (with_reducible first | exact HB.out | apply below_alloc | apply pw_below_drewN | apply below_drew1) | exact HB.out)) GE_g4.out); clear HB; have HB := n_; clear n_; clear AR4; have AR4 := Aside0.mk hst; clear hst hk hB_))
      refine bodyPost_ret (results_cell_row rfl _ _ g4 60 _ (0, 0) _ rfl AR4.out hu rfl (by rw [List.size_toArray, List.length_map, HFL.out]; kernel_rfl)) rfl ?_
      exact ⟨rfl, (by repeat (first | (with_reducible first | exact HB.out | apply below_alloc | apply pw_below_drewN | apply below_drew1) | exact HB.out))⟩
    | succ q =>
      have hi0 : 0 ≤ i := HI.out.2
      have hi1 : i < (l1.length : Int) := by have := HI.out; omega
      have cib : decide (i < (l1.length : Int)) = true := decide_eq_true hi1
      obtain ⟨ad, e1, hz⟩ := Kd.at_int HR1.out i hi0 hi1
      cases e1
      replace hz := (HB.out.cell (World.block_lt_of_cell? w _ hz)).trans hz
      have hkz := HG.out.at_ i hi0 hi1
      have HA1 : cr.runT (rd l1 i :: l1.drop (i + 1).toNat) xs T = FT := by rw [← cr.drop_cons l1 i hi0 hi1]; exact HA.out
      clear HA
      have ppi : (0 ≤ i) = True := eq_true hi0
      have qqi : (i < (l1.length : Int)) = True := eq_true hi1
      have HI0 := Aside0.mk hi0
      have HI1 := Aside0.mk hi1
      clear hi0 hi1
      obtain ⟨z, hzz⟩ : ∃ z, rd l1 i = z := ⟨_, rfl⟩
      rw [hzz] at hz hkz HA1
      clear hzz
      obtain ⟨kz, hK⟩ : ∃ x, cr.K z = x := ⟨_, rfl⟩
      obtain ⟨sz, hS⟩ : ∃ x, cr.sg z = x := ⟨_, rfl⟩
      rw [hK] at hkz
      have HKZ := Aside0.mk hkz
      have HK := Aside0.mk hK
      have HS := Aside0.mk hS
      have HA := Aside0.mk HA1
      clear hkz hK hS HA1
      go_upto_if 26 with (fail)
      go_cut [8, 9] (fun v8 v9 wc => v8 = .int .i64 kz ∧ v9 = .int .i64 sz ∧ Aside0 (Ar (Value.int .i64) 60 wc g4 (List.replicate 64 (0))) ∧ Aside0 (Ar (Value.int .i64) 60 wc g5 T) ∧ Aside0 (Ar (Value.int .u8) 64 wc g6 xs) ∧ Aside0 (Below w.heap.size w wc))
      case first =>
        by_cases e1 : z < 0
        · have c1b : decide (z < 0) = true := decide_eq_true e1
          have E1 : Aside0 (wrap64 (-z) = kz) := ⟨by rw [← HK.out]; unfold cr.K; rw [if_pos e1]⟩
          have E2 : Aside0 (-1 = sz) := ⟨by rw [← HS.out]; unfold cr.sg; rw [if_pos e1]⟩
          clear e1
          (try rw [c1b])
          go_wp2
          go_meet
          case rel => exact ⟨by rw [← E1.out], by rw [← E2.out], ⟨(by (with_reducible repeat (first | refine ar_alloc ?_ _ | refine ar_drewN ?_ _ | refine ar_drew ?_)); exact AR4.out)⟩, ⟨(by (with_reducible repeat (first | refine ar_alloc ?_ _ | refine ar_drewN ?_ _ | refine ar_drew ?_)); exact AR5.out)⟩, ⟨(by (with_reducible repeat (first | refine ar_alloc ?_ _ | refine ar_drewN ?_ _ | refine ar_drew ?_)); exact AR6.out)⟩, ⟨(by repeat (first | (with_reducible first | exact HB.out | apply below_alloc | apply pw_below_drewN | apply below_drew1) | exact HB.out))⟩⟩
        · have c1b : decide (z < 0) = false := decide_eq_false e1
          have E1 : Aside0 (z = kz) := ⟨by rw [← HK.out]; unfold cr.K; rw [if_neg e1]⟩
          have E2 : Aside0 (1 = sz) := ⟨by rw [← HS.out]; unfold cr.sg; rw [if_neg e1]⟩
          clear e1
          (try rw [c1b])
          go_wp2
          go_meet
          case rel => exact ⟨by rw [← E1.out], by rw [← E2.out], ⟨(by (with_reducible repeat (first | refine ar_alloc ?_ _ | refine ar_drewN ?_ _ | refine ar_drew ?_)); exact AR4.out)⟩, ⟨(by (with_reducible repeat (first | refine ar_alloc ?_ _ | refine ar_drewN ?_ _ | refine ar_drew ?_)); exact AR5.out)⟩, ⟨(by (with_reducible repeat (first | refine ar_alloc ?_ _ | refine ar_drewN ?_ _ | refine ar_drew ?_)); exact AR6.out)⟩, ⟨(by repeat (first | (with_reducible first | exact HB.out | apply below_alloc | apply pw_below_drewN | apply below_drew1) | exact HB.out))⟩⟩
      case rest =>
        clear AR4 AR5 AR6 HB hz
        obtain ⟨rfl, rfl, AR4, AR5, AR6, HB⟩ := hcut
        obtain ⟨k1, hk1⟩ : ∃ x, wrap64 (kz - 1) = x := ⟨_, rfl⟩
        have HK1 : Aside0 (k1 = kz - 1) := ⟨by rw [← hk1]; have := HKZ.out; unfold wrap64; omega⟩
        obtain ⟨x, hx⟩ : ∃ x, rd xs k1 = x := ⟨_, rfl⟩
        obtain ⟨y, hy⟩ : ∃ x, rd xs kz = x := ⟨_, rfl⟩
        have hx7 := HXS.out.at_ (x := k1) (by have := HKZ.out; have := HK1.out; omega) (by have := HKZ.out; have := HK1.out; omega)
        have hy7 := HXS.out.at_ (x := kz) (by have := HKZ.out; omega) (by have := HKZ.out; omega)
        rw [hx] at hx7
        rw [hy] at hy7
        have HX7 := Aside0.mk hx7
        have HY7 := Aside0.mk hy7
        have hk10 : 0 ≤ k1 := by have := HKZ.out; have := HK1.out; omega
        have hk11 : k1 < 8 := by have := HKZ.out; have := HK1.out; omega
        have hkz0 : 0 ≤ kz := by have := HKZ.out; omega
        have hkz1 : kz < 8 := by have := HKZ.out; omega
        obtain ⟨hz1, hf1⟩ := ar_rd 0 AR6.out k1 8 HXS.out.1 hk10 hk11
        obtain ⟨hz2, hf2⟩ := ar_rd 0 AR6.out kz 8 HXS.out.1 hkz0 hkz1
        replace hz1 : wc.cell? ⟨g6, k1.toNat, none⟩ = some (.int .u8 x) := by rw [← hx]; exact hz1
        replace hz2 : wc.cell? ⟨g6, kz.toNat, none⟩ = some (.int .u8 y) := by rw [← hy]; exact hz2
        have pk0 : (0 ≤ k1) = True := eq_true hk10
        have pk1 : (k1 < 8) = True := eq_true hk11
        have pk2 : (0 ≤ kz) = True := eq_true hkz0
        have pk3 : (kz < 8) = True := eq_true hkz1
        have HXE := Aside0.mk hx
        have HYE := Aside0.mk hy
        clear hk10 hk11 hkz0 hkz1 hx hy hx7 hy7
        try go_wp2
        go_quiet (fail)
        try go_wp2
        (first | (rw [drewN_self wc]; generalize hq_ : World.drewN wc _ = w9) | (rw [drew_self wc]; generalize hq1_ : World.drew wc = w9; have hq_ : World.drewN wc 1 = w9 := hq1_; clear hq1_) | (rw [show wc = World.drewN wc 0 from rfl]; generalize hq_ : World.drewN wc 0 = w9))
        have n_ := Aside0.mk (ar_at hq_ AR4.out); clear AR4; have AR4 := n_; clear n_
        have n_ := Aside0.mk (ar_at hq_ AR5.out); clear AR5; have AR5 := n_; clear n_
        have n_ := Aside0.mk (ar_at hq_ AR6.out); clear AR6; have AR6 := n_; clear n_
        have n_ := Aside0.mk (ar_below_at hq_ HB.out); clear HB; have HB := n_; clear n_
        clear hq_
        clear hz1 hf1 hz2 hf2
        have px0 : (0 ≤ x) = True := eq_true HX7.out.1
        have px1 : (x < 8) = True := eq_true (by have := HX7.out; omega)
        have py0 : (0 ≤ y) = True := eq_true HY7.out.1
        have py1 : (y < 8) = True := eq_true (by have := HY7.out; omega)
        have n_ := Aside0.mk (ar_drew AR4.out); clear AR4; have AR4 := n_; clear n_
        have n_ := Aside0.mk (ar_drew AR5.out); clear AR5; have AR5 := n_; clear n_
        have n_ := Aside0.mk (ar_drew AR6.out); clear AR6; have AR6 := n_; clear n_
        have n_ := Aside0.mk (below_drew1 HB.out); clear HB; have HB := n_; clear n_
        obtain ⟨hzt, hft⟩ := ar_rdN 0 AR5.out (x.toNat * 8 + y.toNat) (by rw [HTL.out]; have := HX7.out; have := HY7.out; omega)
        obtain ⟨tv, htv⟩ : ∃ v, (T).getD (x.toNat * 8 + y.toNat) 0 = v := ⟨_, rfl⟩
        rw [htv] at hzt
        refine start_ (n := 12) (S := fun w' => w'.cell? ⟨g5, (x.toNat * 8 + y.toNat), none⟩ = some (.int .i64 tv) ∧ w'.frozen? ⟨g5, (x.toNat * 8 + y.toNat), none⟩ = false) (ds := [11]) #[false, false, false, false, false, false, false, false, false, false, false, false] (by kernel_rfl) rfl rfl ⟨hzt, hft⟩ (fun hHeld => ?_)
        refine with_tabW spec_l01Crossings.tab10 spec_l01Crossings.bits10 (fun HT_ HW_ => ?_)
        generalize w9.drew = w10 at AR4 AR5 AR6 HB hzt hft hHeld ⊢
        refine pure_ (i := 0) (N := some 36) (v := ?_) (a' := ?_) #[true, false, false, false, false, false, false, false, false, false, false, false] rfl rfl (any_of HT_.out (by kernel_rfl)) (fun _ _ _ h => h) (Or.inl ⟨by rfl, ?_⟩) ?_ ?_
        rotate_left
        · intro w'
          go_simp
          with_reducible rfl
        rotate_left
        · simp only [Act.put, List.setIfInBounds_toArray, List.set_cons_zero, List.set_cons_succ, i64_w, i32_w]
          rfl
        refine pure_ (i := 1) (N := some 37) (v := ?_) (a' := ?_) #[true, true, false, false, false, false, false, false, false, false, false, false] rfl rfl (any_of HT_.out (by kernel_rfl)) (fun _ _ _ h => h) (Or.inl ⟨by rfl, ?_⟩) ?_ ?_
        rotate_left
        · intro w'
          go_simp
          with_reducible rfl
        rotate_left
        · simp only [Act.put, List.setIfInBounds_toArray, List.set_cons_zero, List.set_cons_succ, i64_w, i32_w]
          rfl
        refine pure_ (i := 2) (N := some 38) (v := ?_) (a' := ?_) #[true, true, true, false, false, false, false, false, false, false, false, false] rfl rfl (any_of HT_.out (by kernel_rfl)) (fun _ _ _ h => h) (Or.inl ⟨by rfl, ?_⟩) ?_ ?_
        rotate_left
        · intro w'
          go_simp
          with_reducible rfl
        rotate_left
        · simp only [Act.put, List.setIfInBounds_toArray, List.set_cons_zero, List.set_cons_succ, i64_w, i32_w]
          rfl
        refine pure_ (i := 3) (N := some 39) (v := ?_) (a' := ?_) #[true, true, true, true, false, false, false, false, false, false, false, false] rfl rfl (any_of HT_.out (by kernel_rfl)) (fun _ _ _ h => h) (Or.inl ⟨by rfl, ?_⟩) ?_ ?_
        rotate_left
        · intro w'
          go_simp
          with_reducible rfl
        rotate_left
        · simp only [Act.put, List.setIfInBounds_toArray, List.set_cons_zero, List.set_cons_succ, i64_w, i32_w]
          rfl
        refine pure_ (i := 4) (N := some 40) (v := ?_) (a' := ?_) #[true, true, true, true, true, false, false, false, false, false, false, false] rfl rfl (any_of HT_.out (by kernel_rfl)) (fun _ _ _ h => h) (Or.inl ⟨by rfl, ?_⟩) ?_ ?_
        rotate_left
        · intro w'
          go_simp
          with_reducible rfl
        rotate_left
        · simp only [Act.put, List.setIfInBounds_toArray, List.set_cons_zero, List.set_cons_succ, i64_w, i32_w]
          rfl
        refine pure_ (i := 5) (N := some 41) (v := ?_) (a' := ?_) #[true, true, true, true, true, true, false, false, false, false, false, false] rfl rfl (any_of HT_.out (by kernel_rfl)) (fun _ _ _ h => h) (Or.inl ⟨by rfl, ?_⟩) ?_ ?_
        rotate_left
        · intro w'
          go_simp
          with_reducible rfl
        rotate_left
        · simp only [Act.put, List.setIfInBounds_toArray, List.set_cons_zero, List.set_cons_succ, i64_w, i32_w]
          rfl
        refine pure_ (i := 7) (N := some 43) (v := ?_) (a' := ?_) #[true, true, true, true, true, true, false, true, false, false, false, false] rfl rfl (any_of HT_.out (by kernel_rfl)) (fun _ _ _ h => h) (Or.inl ⟨by rfl, ?_⟩) ?_ ?_
        rotate_left
        · intro w'
          go_simp
          with_reducible rfl
        rotate_left
        · simp only [Act.put, List.setIfInBounds_toArray, List.set_cons_zero, List.set_cons_succ, i64_w, i32_w]
          rfl
        refine pure_ (i := 9) (N := some 45) (v := ?_) (a' := ?_) #[true, true, true, true, true, true, false, true, false, true, false, false] rfl rfl (any_of HT_.out (by kernel_rfl)) (fun _ _ _ h => h) (Or.inl ⟨by rfl, ?_⟩) ?_ ?_
        rotate_left
        · intro w'
          go_simp
          with_reducible rfl
        rotate_left
        · simp only [Act.put, List.setIfInBounds_toArray, List.set_cons_zero, List.set_cons_succ, i64_w, i32_w]
          rfl
        refine take_ (i := 6) (N := some 42) (v := ?_) (a' := ?_) #[true, true, true, true, true, true, true, true, false, true, false, false] rfl rfl (take_ofW HT_.out HW_.out (by kernel_rfl)) (fun _ _ _ h => h) (Or.inl ⟨by rfl, ?_⟩) hHeld ?_ ?_
        rotate_left
        · rintro w' ⟨s0, s1⟩
          go_simp
          with_reducible rfl
        rotate_left
        · simp only [Act.put, List.setIfInBounds_toArray, List.set_cons_zero, List.set_cons_succ, i64_w, i32_w]
          rfl
        refine pure_ (i := 8) (N := some 44) (v := ?_) (a' := ?_) #[true, true, true, true, true, true, true, true, true, true, false, false] rfl rfl (any_of HT_.out (by kernel_rfl)) (fun _ _ _ h => h) (Or.inl ⟨by rfl, ?_⟩) ?_ ?_
        rotate_left
        · intro w'
          go_simp
          with_reducible rfl
        rotate_left
        · simp only [Act.put, List.setIfInBounds_toArray, List.set_cons_zero, List.set_cons_succ, i64_w, i32_w]
          rfl
        refine pure_ (i := 10) (N := some 46) (v := ?_) (a' := ?_) #[true, true, true, true, true, true, true, true, true, true, true, false] rfl rfl (any_of HT_.out (by kernel_rfl)) (fun _ _ _ h => h) (Or.inl ⟨by rfl, ?_⟩) ?_ ?_
        rotate_left
        · intro w'
          go_simp
          with_reducible rfl
        rotate_left
        · simp only [Act.put, List.setIfInBounds_toArray, List.set_cons_zero, List.set_cons_succ, i64_w, i32_w]
          rfl
        refine last_ (i := 11) (N := none) #[true, true, true, true, true, true, true, true, true, true, true, true] rfl rfl (one_of HT_.out (by kernel_rfl)) (by decide) (fun K hK => ?_)
        refine skip_ (w1 := ?_) (by rfl) rfl ?_ ?_
        rotate_left
        · first | (go_simp; done) | (go_simp; rfl)
        refine hK.out _ _ ?_
        clear hK K
        refine done_ (done_of HT_.out (by kernel_rfl)) ?_
        have n0_ : Aside0 (Ar (Value.int .i64) 60 (World.setCell w10 ⟨g5, (x.toNat * 8 + y.toNat), none⟩ (.int .i64 (wrap64 (tv + sz)))) g5 (cr.ad (T) x y sz)) := ⟨by rw [show cr.ad (T) x y sz = (T).set (x.toNat * 8 + y.toNat) (wrap64 ((T).getD (x.toNat * 8 + y.toNat) 0 + sz)) from rfl, htv]; exact ar_put AR5.out (x.toNat * 8 + y.toNat) (wrap64 (tv + sz)) rfl⟩
        have hk_ : Kept w10 (World.setCell w10 ⟨g5, (x.toNat * 8 + y.toNat), none⟩ (.int .i64 (wrap64 (tv + sz)))) (fun k_ => k_ = g5) := Kept.setCell (S := fun k_ => k_ = g5) (Kept.refl _ _) (p := ⟨g5, _, none⟩) (Or.inl rfl) _
        have n1_ := Aside0.mk (ar_kept AR4.out hk_ (fun h_ => NE_g4_g5.out h_))
        have n2_ := Aside0.mk (ar_kept AR6.out hk_ (fun h_ => NE_g5_g6.out h_.symm))
        have n3_ : Aside0 (Below w.heap.size w (World.setCell w10 ⟨g5, (x.toNat * 8 + y.toNat), none⟩ (.int .i64 (wrap64 (tv + sz))))) := ⟨below_set HB.out GE_g5.out⟩
        clear hk_ AR4 AR5 AR6 HB hzt hft hHeld HT_ HW_
        generalize (World.setCell w10 ⟨g5, (x.toNat * 8 + y.toNat), none⟩ (.int .i64 (wrap64 (tv + sz)))) = w11 at n0_ n1_ n2_ n3_ ⊢
        have AR5 := n0_
        have AR4 := n1_
        have AR6 := n2_
        have HB := n3_
        clear n0_ n1_ n2_ n3_ htv
        have n_ : Aside0 ((cr.ad (T) x y sz).length = 64) := ⟨by rw [cr.ad_len]; exact HTL.out⟩
        clear HTL
        have HTL := n_
        clear n_
        try go_wp2
        (first | (rw [drewN_self w11]; generalize hq_ : World.drewN w11 _ = w12) | (rw [drew_self w11]; generalize hq1_ : World.drew w11 = w12; have hq_ : World.drewN w11 1 = w12 := hq1_; clear hq1_) | (rw [show w11 = World.drewN w11 0 from rfl]; generalize hq_ : World.drewN w11 0 = w12))
        have n_ := Aside0.mk (ar_at hq_ AR4.out); clear AR4; have AR4 := n_; clear n_
        have n_ := Aside0.mk (ar_at hq_ AR5.out); clear AR5; have AR5 := n_; clear n_
        have n_ := Aside0.mk (ar_at hq_ AR6.out); clear AR6; have AR6 := n_; clear n_
        have n_ := Aside0.mk (ar_below_at hq_ HB.out); clear HB; have HB := n_; clear n_
        clear hq_
        have n_ := Aside0.mk (ar_drew AR4.out); clear AR4; have AR4 := n_; clear n_
        have n_ := Aside0.mk (ar_drew AR5.out); clear AR5; have AR5 := n_; clear n_
        have n_ := Aside0.mk (ar_drew AR6.out); clear AR6; have AR6 := n_; clear n_
        have n_ := Aside0.mk (below_drew1 HB.out); clear HB; have HB := n_; clear n_
        obtain ⟨hzt, hft⟩ := ar_rdN 0 AR5.out (y.toNat * 8 + x.toNat) (by rw [HTL.out]; have := HX7.out; have := HY7.out; omega)
        obtain ⟨tv, htv⟩ : ∃ v, (cr.ad T x y sz).getD (y.toNat * 8 + x.toNat) 0 = v := ⟨_, rfl⟩
        rw [htv] at hzt
        refine start_ (n := 12) (S := fun w' => w'.cell? ⟨g5, (y.toNat * 8 + x.toNat), none⟩ = some (.int .i64 tv) ∧ w'.frozen? ⟨g5, (y.toNat * 8 + x.toNat), none⟩ = false) (ds := [11]) #[false, false, false, false, false, false, false, false, false, false, false, false] (by kernel_rfl) rfl rfl ⟨hzt, hft⟩ (fun hHeld => ?_)
        refine with_tabW spec_l01Crossings.tab11 spec_l01Crossings.bits11 (fun HT_ HW_ => ?_)
        generalize w12.drew = w13 at AR4 AR5 AR6 HB hzt hft hHeld ⊢
        refine pure_ (i := 0) (N := some 47) (v := ?_) (a' := ?_) #[true, false, false, false, false, false, false, false, false, false, false, false] rfl rfl (any_of HT_.out (by kernel_rfl)) (fun _ _ _ h => h) (Or.inl ⟨by rfl, ?_⟩) ?_ ?_
        rotate_left
        · intro w'
          go_simp
          with_reducible rfl
        rotate_left
        · simp only [Act.put, List.setIfInBounds_toArray, List.set_cons_zero, List.set_cons_succ, i64_w, i32_w]
          rfl
        refine pure_ (i := 1) (N := some 48) (v := ?_) (a' := ?_) #[true, true, false, false, false, false, false, false, false, false, false, false] rfl rfl (any_of HT_.out (by kernel_rfl)) (fun _ _ _ h => h) (Or.inl ⟨by rfl, ?_⟩) ?_ ?_
        rotate_left
        · intro w'
          go_simp
          with_reducible rfl
        rotate_left
        · simp only [Act.put, List.setIfInBounds_toArray, List.set_cons_zero, List.set_cons_succ, i64_w, i32_w]
          rfl
        refine pure_ (i := 2) (N := some 49) (v := ?_) (a' := ?_) #[true, true, true, false, false, false, false, false, false, false, false, false] rfl rfl (any_of HT_.out (by kernel_rfl)) (fun _ _ _ h => h) (Or.inl ⟨by rfl, ?_⟩) ?_ ?_
        rotate_left
        · intro w'
          go_simp
          with_reducible rfl
        rotate_left
        · simp only [Act.put, List.setIfInBounds_toArray, List.set_cons_zero, List.set_cons_succ, i64_w, i32_w]
          rfl
        refine pure_ (i := 3) (N := some 50) (v := ?_) (a' := ?_) #[true, true, true, true, false, false, false, false, false, false, false, false] rfl rfl (any_of HT_.out (by kernel_rfl)) (fun _ _ _ h => h) (Or.inl ⟨by rfl, ?_⟩) ?_ ?_
        rotate_left
        · intro w'
          go_simp
          with_reducible rfl
        rotate_left
        · simp only [Act.put, List.setIfInBounds_toArray, List.set_cons_zero, List.set_cons_succ, i64_w, i32_w]
          rfl
        refine pure_ (i := 4) (N := some 51) (v := ?_) (a' := ?_) #[true, true, true, true, true, false, false, false, false, false, false, false] rfl rfl (any_of HT_.out (by kernel_rfl)) (fun _ _ _ h => h) (Or.inl ⟨by rfl, ?_⟩) ?_ ?_
        rotate_left
        · intro w'
          go_simp
          with_reducible rfl
        rotate_left
        · simp only [Act.put, List.setIfInBounds_toArray, List.set_cons_zero, List.set_cons_succ, i64_w, i32_w]
          rfl
        refine pure_ (i := 5) (N := some 52) (v := ?_) (a' := ?_) #[true, true, true, true, true, true, false, false, false, false, false, false] rfl rfl (any_of HT_.out (by kernel_rfl)) (fun _ _ _ h => h) (Or.inl ⟨by rfl, ?_⟩) ?_ ?_
        rotate_left
        · intro w'
          go_simp
          with_reducible rfl
        rotate_left
        · simp only [Act.put, List.setIfInBounds_toArray, List.set_cons_zero, List.set_cons_succ, i64_w, i32_w]
          rfl
        refine pure_ (i := 7) (N := some 54) (v := ?_) (a' := ?_) #[true, true, true, true, true, true, false, true, false, false, false, false] rfl rfl (any_of HT_.out (by kernel_rfl)) (fun _ _ _ h => h) (Or.inl ⟨by rfl, ?_⟩) ?_ ?_
        rotate_left
        · intro w'
          go_simp
          with_reducible rfl
        rotate_left
        · simp only [Act.put, List.setIfInBounds_toArray, List.set_cons_zero, List.set_cons_succ, i64_w, i32_w]
          rfl
        refine pure_ (i := 9) (N := some 56) (v := ?_) (a' := ?_) #[true, true, true, true, true, true, false, true, false, true, false, false] rfl rfl (any_of HT_.out (by kernel_rfl)) (fun _ _ _ h => h) (Or.inl ⟨by rfl, ?_⟩) ?_ ?_
        rotate_left
        · intro w'
          go_simp
          with_reducible rfl
        rotate_left
        · simp only [Act.put, List.setIfInBounds_toArray, List.set_cons_zero, List.set_cons_succ, i64_w, i32_w]
          rfl
        refine take_ (i := 6) (N := some 53) (v := ?_) (a' := ?_) #[true, true, true, true, true, true, true, true, false, true, false, false] rfl rfl (take_ofW HT_.out HW_.out (by kernel_rfl)) (fun _ _ _ h => h) (Or.inl ⟨by rfl, ?_⟩) hHeld ?_ ?_
        rotate_left
        · rintro w' ⟨s0, s1⟩
          go_simp
          with_reducible rfl
        rotate_left
        · simp only [Act.put, List.setIfInBounds_toArray, List.set_cons_zero, List.set_cons_succ, i64_w, i32_w]
          rfl
        refine pure_ (i := 8) (N := some 55) (v := ?_) (a' := ?_) #[true, true, true, true, true, true, true, true, true, true, false, false] rfl rfl (any_of HT_.out (by kernel_rfl)) (fun _ _ _ h => h) (Or.inl ⟨by rfl, ?_⟩) ?_ ?_
        rotate_left
        · intro w'
          go_simp
          with_reducible rfl
        rotate_left
        · simp only [Act.put, List.setIfInBounds_toArray, List.set_cons_zero, List.set_cons_succ, i64_w, i32_w]
          rfl
        refine pure_ (i := 10) (N := some 57) (v := ?_) (a' := ?_) #[true, true, true, true, true, true, true, true, true, true, true, false] rfl rfl (any_of HT_.out (by kernel_rfl)) (fun _ _ _ h => h) (Or.inl ⟨by rfl, ?_⟩) ?_ ?_
        rotate_left
        · intro w'
          go_simp
          with_reducible rfl
        rotate_left
        · simp only [Act.put, List.setIfInBounds_toArray, List.set_cons_zero, List.set_cons_succ, i64_w, i32_w]
          rfl
        refine last_ (i := 11) (N := none) #[true, true, true, true, true, true, true, true, true, true, true, true] rfl rfl (one_of HT_.out (by kernel_rfl)) (by decide) (fun K hK => ?_)
        refine skip_ (w1 := ?_) (by rfl) rfl ?_ ?_
        rotate_left
        · first | (go_simp; done) | (go_simp; rfl)
        refine hK.out _ _ ?_
        clear hK K
        refine done_ (done_of HT_.out (by kernel_rfl)) ?_
        have n0_ : Aside0 (Ar (Value.int .i64) 60 (World.setCell w13 ⟨g5, (y.toNat * 8 + x.toNat), none⟩ (.int .i64 (wrap64 (tv + sz)))) g5 (cr.ad (cr.ad T x y sz) y x sz)) := ⟨by rw [show cr.ad (cr.ad T x y sz) y x sz = (cr.ad T x y sz).set (y.toNat * 8 + x.toNat) (wrap64 ((cr.ad T x y sz).getD (y.toNat * 8 + x.toNat) 0 + sz)) from rfl, htv]; exact ar_put AR5.out (y.toNat * 8 + x.toNat) (wrap64 (tv + sz)) rfl⟩
        have hk_ : Kept w13 (World.setCell w13 ⟨g5, (y.toNat * 8 + x.toNat), none⟩ (.int .i64 (wrap64 (tv + sz)))) (fun k_ => k_ = g5) := Kept.setCell (S := fun k_ => k_ = g5) (Kept.refl _ _) (p := ⟨g5, _, none⟩) (Or.inl rfl) _
        have n1_ := Aside0.mk (ar_kept AR4.out hk_ (fun h_ => NE_g4_g5.out h_))
        have n2_ := Aside0.mk (ar_kept AR6.out hk_ (fun h_ => NE_g5_g6.out h_.symm))
        have n3_ : Aside0 (Below w.heap.size w (World.setCell w13 ⟨g5, (y.toNat * 8 + x.toNat), none⟩ (.int .i64 (wrap64 (tv + sz))))) := ⟨below_set HB.out GE_g5.out⟩
        clear hk_ AR4 AR5 AR6 HB hzt hft hHeld HT_ HW_
        generalize (World.setCell w13 ⟨g5, (y.toNat * 8 + x.toNat), none⟩ (.int .i64 (wrap64 (tv + sz)))) = w14 at n0_ n1_ n2_ n3_ ⊢
        have AR5 := n0_
        have AR4 := n1_
        have AR6 := n2_
        have HB := n3_
        clear n0_ n1_ n2_ n3_ htv
        have n_ : Aside0 ((cr.ad (cr.ad T x y sz) y x sz).length = 64) := ⟨by rw [cr.ad_len]; exact HTL.out⟩
        clear HTL
        have HTL := n_
        clear n_
        skip
        (first | (rw [drewN_self w14]; generalize hq_ : World.drewN w14 _ = w15) | (rw [drew_self w14]; generalize hq1_ : World.drew w14 = w15; have hq_ : World.drewN w14 1 = w15 := hq1_; clear hq1_) | (rw [show w14 = World.drewN w14 0 from rfl]; generalize hq_ : World.drewN w14 0 = w15))
        have n_ := Aside0.mk (ar_at hq_ AR4.out); clear AR4; have AR4 := n_; clear n_
        have n_ := Aside0.mk (ar_at hq_ AR5.out); clear AR5; have AR5 := n_; clear n_
        have n_ := Aside0.mk (ar_at hq_ AR6.out); clear AR6; have AR6 := n_; clear n_
        have n_ := Aside0.mk (ar_below_at hq_ HB.out); clear HB; have HB := n_; clear n_
        clear hq_
        have hk10 : 0 ≤ k1 := by have := HKZ.out; have := HK1.out; omega
        have hk11 : k1 < 8 := by have := HKZ.out; have := HK1.out; omega
        have hkz0 : 0 ≤ kz := by have := HKZ.out; omega
        have hkz1 : kz < 8 := by have := HKZ.out; omega
        obtain ⟨hz1, hf1⟩ := ar_rd 0 AR6.out k1 8 HXS.out.1 hk10 hk11
        have AR7 := Aside0.mk (ar_put (W1 := World.setCell w15 ⟨g6, k1.toNat, none⟩ (.int .u8 y)) AR6.out k1.toNat y rfl)
        obtain ⟨hz2, hf2⟩ := ar_rd 0 AR7.out kz 8 (by rw [List.length_set]; exact HXS.out.1) hkz0 hkz1
        have HK10 := Aside0.mk (And.intro hk10 hkz0)
        clear hk10 hk11 hkz0 hkz1
        go_wp2
        have n0_ : Aside0 (Ar (Value.int .u8) 64 ((World.setCell w15 ⟨g6, k1.toNat, none⟩ (.int .u8 y)).setCell ⟨g6, kz.toNat, none⟩ (.int .u8 x)) g6 (cr.sw xs z)) := ⟨by have h_ := ar_put (W1 := ((World.setCell w15 ⟨g6, k1.toNat, none⟩ (.int .u8 y)).setCell ⟨g6, kz.toNat, none⟩ (.int .u8 x))) AR7.out kz.toNat x rfl; unfold cr.sw; rw [HK.out, ← HK1.out, HXE.out, HYE.out]; exact h_⟩
        have hk_ : Kept w15 ((World.setCell w15 ⟨g6, k1.toNat, none⟩ (.int .u8 y)).setCell ⟨g6, kz.toNat, none⟩ (.int .u8 x)) (fun k_ => k_ = g6) := Kept.setCell (S := fun k_ => k_ = g6) (Kept.setCell (S := fun k_ => k_ = g6) (Kept.refl _ _) (p := ⟨g6, _, none⟩) (Or.inl rfl) _) (p := ⟨g6, _, none⟩) (Or.inl rfl) _
        have n1_ := Aside0.mk (ar_kept AR4.out hk_ (fun h_ => NE_g4_g6.out h_))
        have n2_ := Aside0.mk (ar_kept AR5.out hk_ (fun h_ => NE_g5_g6.out h_))
        have n3_ : Aside0 (Below w.heap.size w ((World.setCell w15 ⟨g6, k1.toNat, none⟩ (.int .u8 y)).setCell ⟨g6, kz.toNat, none⟩ (.int .u8 x))) := ⟨below_set (below_set HB.out GE_g6.out) GE_g6.out⟩
        clear hk_ AR4 AR5 AR6 AR7 HB hz1 hf1 hz2 hf2
        generalize ((World.setCell w15 ⟨g6, k1.toNat, none⟩ (.int .u8 y)).setCell ⟨g6, kz.toNat, none⟩ (.int .u8 x)) = w16 at n0_ n1_ n2_ n3_ ⊢
        have AR6 := n0_
        have AR4 := n1_
        have AR5 := n2_
        have HB := n3_
        clear n0_ n1_ n2_ n3_
        go_roundg k1_
        case measure => omega
        case rel =>
          have HW := Aside0.mk (show wrap64 (i + 1) = i + 1 by have := HI0.out; have := HI1.out; have := HG.out.1; unfold wrap64; omega)
          have HST : Aside0 (cr.ad (cr.ad T x y sz) y x sz = cr.stT xs T z) := ⟨by unfold cr.stT; rw [HK.out, HS.out, ← HK1.out, HXE.out, HYE.out]⟩
          exact ⟨wrap64 (i + 1), q, cr.sw xs z, cr.stT xs T z, (by first | rfl | (simp; done) | (simp [*]; done)), ⟨by have := HQ.out; omega⟩, ⟨by have := HI.out; rw [HW.out]; omega⟩, ⟨by rw [HW.out]; exact HA.out⟩, ⟨HXS.out.sw (by rw [HK.out]; exact HKZ.out)⟩, ⟨by rw [← HST.out]; exact HTL.out⟩, ⟨(by (with_reducible repeat (first | refine ar_alloc ?_ _ | refine ar_drewN ?_ _ | refine ar_drew ?_)); exact AR4.out)⟩, ⟨by rw [← HST.out]; exact (by (with_reducible repeat (first | refine ar_alloc ?_ _ | refine ar_drewN ?_ _ | refine ar_drew ?_)); exact AR5.out)⟩, ⟨(by (with_reducible repeat (first | refine ar_alloc ?_ _ | refine ar_drewN ?_ _ | refine ar_drew ?_)); exact AR6.out)⟩, ⟨(by repeat (first | (with_reducible first | exact HB.out | apply below_alloc | apply pw_below_drewN | apply below_drew1) | exact HB.out))⟩⟩


/-! ### spec_LinkingsOf: function 27 -/
def spec_LinkingsOf.f (k : Nat) (a0_0 : Int) (l0_1 : List Int) : Option (List (List Int) × Int) := (spec_l10Pure.f k a0_0 l0_1).bind fun c => if c = 0 then (if cr.good l0_1 ∧ 1 ≤ a0_0 ∧ a0_0 ≤ 8 then some (cr.tabH (cr.runT l0_1 (cr.fill a0_0.toNat) (List.replicate 64 0)) a0_0.toNat, 0) else none) else some ([], c)
theorem spec_LinkingsOf.mono : ∀ a0 a1 k, LeO (spec_LinkingsOf.f k a0 a1) (spec_LinkingsOf.f (k + 1) a0 a1) := by
  intro a0 a1 k
  unfold spec_LinkingsOf.f
  exact LeO.bind (spec_l10Pure.mono _ _ _) (fun _ => LeO.refl _)
set_option maxHeartbeats 8000000 in
set_option maxRecDepth 100000 in
theorem spec_LinkingsOf.calls (k : Nat) (a0_0 : Int) (A0_1 : Option Addr) (c0_1 : Nat) (l0_1 : List Int) (r1 : List (List Int)) (r2 : Int) (w : World) (hr0_1 : Kd.C (Kd.int .i64) w A0_1 l0_1.length l0_1) (hc0_1 : l0_1.length ≤ c0_1) (h : spec_LinkingsOf.f k a0_0 l0_1 = some (r1, r2)) :
    Calls Try.prog 27 #[.agg #[.int .i64 a0_0, .slice A0_1 l0_1.length c0_1]] w fun e w' => ∃ v0_ : Value, e = .returned (.tuple #[v0_, .int .i64 r2]) ∧ Kd.S (Kd.slice 2 (Kd.int .i64)) 22 w' w.heap.size (fun _ => True) v0_ r1 ∧ Below w.heap.size w w' := by
  have hu := Try.underlying26
  have hu8 := Try.underlying60
  have hu59 := Try.underlying59
  have HR0 := Aside0.mk hr0_1
  have HC0 := Aside0.mk hc0_1
  clear hr0_1 hc0_1
  have HB := Aside0.mk (Below.refl w.heap.size w)
  have H0 := h
  clear h
  unfold spec_LinkingsOf.f at H0
  obtain ⟨c, A1_, H1⟩ := Option.bind_eq_some_iff.mp H0
  clear H0
  have A1 := Aside0.mk A1_
  clear A1_
  by_cases hc : c = 0
  case neg =>
    rw [if_neg hc, Option.some.injEq, Prod.mk.injEq] at H1
    obtain ⟨rfl, rfl⟩ := H1
    have cb0 : (c == 0) = false := beq_eq_false_iff_ne.mpr hc
    have cb1 : (c != 0) = true := bne_iff_ne.mpr hc
    clear hc
    go_enter Try.func27, Try.ntmps27
    go_wp2_with (first | ((with_reducible refine gate_dst (N := 1) rfl ?_); refine box_event ?hg (N := 1) ?hd (cs := #[.int .i64 a0_0, .slice A0_1 l0_1.length c0_1]) (t := 26) ?hr ?_; (case hd => rfl); (case hg => rfl); (case hr => first | (go_simp; done) | (go_simp; rfl)); intro gb hg w1 hbox hb; have n_ := Aside0.mk (below_step (by repeat (first | (with_reducible first | exact HB.out | apply below_alloc | apply pw_below_drewN | apply below_drew1) | exact HB.out)) hb); clear HB; have HB := n_; clear n_; have HCB0 := Aside0.mk ((blk_cell hbox 0).trans rfl); have HCB1 := Aside0.mk ((blk_cell hbox 1).trans rfl); have HB2 := Aside0.mk (Below.refl w1.heap.size w1); have HRA := Aside0.mk (Kd.C_below HR0.out HB.out); clear hg hb; have hzgb_0 := (blk_cell hbox 0).trans rfl; have hzgb_1 := (blk_cell hbox 1).trans rfl; clear hbox) | ((with_reducible refine gate_callee (f := 64) rfl ?_); refine goesL_ (some 11) rfl rfl Try.func64 (by kernel_rfl) rfl #[.agg #[.int .i64 a0_0, .slice A0_1 l0_1.length c0_1]] rfl (by (try simp only [List.map_toArray, List.map_cons, List.map_nil]); first | done | rfl) ?_; (with_reducible refine (spec_l10Pure.calls k a0_0 _ _ l0_1 c _ ?side1 ?side2 A1.out).mono ?_); (case side1 => repeat (first | exact (Kd.C_below HRA.out HB2.out) | (with_reducible refine Kd.C_alloc ?_ _) | (with_reducible refine Kd.C_drewN ?_ _) | (with_reducible refine Kd.C_drew ?_))); (case side2 => exact HC0.out); rintro e wi ⟨rfl, hb⟩; refine ⟨_, rfl, ?_⟩; have n_ := Aside0.mk (below_step (by repeat (first | (with_reducible first | exact HB2.out | apply below_alloc | apply pw_below_drewN | apply below_drew1) | exact HB2.out)) hb); clear HB2; have HB2 := n_; clear n_; clear hb; (try clear hzgb_0 hzgb_1); have hzgb_0 := (HB2.out.cell (World.block_lt_of_cell? w1 _ HCB0.out)).trans HCB0.out; have hzgb_1 := (HB2.out.cell (World.block_lt_of_cell? w1 _ HCB1.out)).trans HCB1.out))
    go_ret2
    exact ⟨_, rfl, Kd.S_nil _ _ _ _ _, below_step HB.out (by repeat (first | (with_reducible first | exact HB2.out | apply below_alloc | apply pw_below_drewN | apply below_drew1) | exact HB2.out))⟩
  subst hc
  rw [if_pos rfl] at H1
  by_cases hg : cr.good l0_1 ∧ 1 ≤ a0_0 ∧ a0_0 ≤ 8
  case neg => rw [if_neg hg] at H1; cases H1
  rw [if_pos hg, Option.some.injEq, Prod.mk.injEq] at H1
  obtain ⟨e1_, e2_⟩ := H1
  subst e2_
  obtain ⟨m, hm⟩ : ∃ m : Nat, a0_0 = m := ⟨a0_0.toNat, by omega⟩
  subst hm
  rw [Int.toNat_natCast] at e1_
  have HM : Aside0 (1 ≤ m ∧ m ≤ 8) := ⟨by omega⟩
  have HG := Aside0.mk hg.1
  clear hg
  obtain ⟨FT, hFT⟩ : ∃ x, cr.runT l0_1 (cr.fill m) (List.replicate 64 0) = x := ⟨_, rfl⟩
  rw [hFT] at e1_
  have HFT := Aside0.mk hFT
  have HTB := Aside0.mk e1_
  clear hFT e1_
  have HRL : Aside0 (r1.length = m) := ⟨by rw [← HTB.out, cr.tabH_len]⟩
  have HFL : Aside0 (FT.length = 64) := ⟨by rw [← HFT.out]; exact cr.runT_len _ _ _ (by simp)⟩
  go_enter Try.func27, Try.ntmps27
  go_wp2_with (first | ((with_reducible refine gate_dst (N := 1) rfl ?_); refine box_event ?hg (N := 1) ?hd (cs := #[.int .i64 (m : Int), .slice A0_1 l0_1.length c0_1]) (t := 26) ?hr ?_; (case hd => rfl); (case hg => rfl); (case hr => first | (go_simp; done) | (go_simp; rfl)); intro gb hg w1 hbox hb; have n_ := Aside0.mk (below_step (by repeat (first | (with_reducible first | exact HB.out | apply below_alloc | apply pw_below_drewN | apply below_drew1) | exact HB.out)) hb); clear HB; have HB := n_; clear n_; have HCB0 := Aside0.mk ((blk_cell hbox 0).trans rfl); have HCB1 := Aside0.mk ((blk_cell hbox 1).trans rfl); have HB2 := Aside0.mk (Below.refl w1.heap.size w1); have HRA := Aside0.mk (Kd.C_below HR0.out HB.out); clear hg hb; have hzgb_0 := (blk_cell hbox 0).trans rfl; have hzgb_1 := (blk_cell hbox 1).trans rfl; clear hbox) | ((with_reducible refine gate_callee (f := 64) rfl ?_); refine goesL_ (some 11) rfl rfl Try.func64 (by kernel_rfl) rfl #[.agg #[.int .i64 (m : Int), .slice A0_1 l0_1.length c0_1]] rfl (by (try simp only [List.map_toArray, List.map_cons, List.map_nil]); first | done | rfl) ?_; (with_reducible refine (spec_l10Pure.calls k (m : Int) _ _ l0_1 0 _ ?side1 ?side2 A1.out).mono ?_); (case side1 => repeat (first | exact (Kd.C_below HRA.out HB2.out) | (with_reducible refine Kd.C_alloc ?_ _) | (with_reducible refine Kd.C_drewN ?_ _) | (with_reducible refine Kd.C_drew ?_))); (case side2 => exact HC0.out); rintro e wi ⟨rfl, hb⟩; refine ⟨_, rfl, ?_⟩; have n_ := Aside0.mk (below_step (by repeat (first | (with_reducible first | exact HB2.out | apply below_alloc | apply pw_below_drewN | apply below_drew1) | exact HB2.out)) hb); clear HB2; have HB2 := n_; clear n_; clear hb; (try clear hzgb_0 hzgb_1); have hzgb_0 := (HB2.out.cell (World.block_lt_of_cell? w1 _ HCB0.out)).trans HCB0.out; have hzgb_1 := (HB2.out.cell (World.block_lt_of_cell? w1 _ HCB1.out)).trans HCB1.out) | ((with_reducible refine gate_callee (f := 65) rfl ?_); refine goesL_ (some 19) rfl rfl Try.func65 (by kernel_rfl) rfl #[.int .i64 (m : Int), .slice A0_1 l0_1.length c0_1] rfl (by (try simp only [List.map_toArray, List.map_cons, List.map_nil]); first | done | rfl) ?_; (refine (cross_calls (m : Int) (by have := HM.out; omega) A0_1 c0_1 l0_1 HG.out _ ?side1 ?side2).mono ?_); (case side1 => repeat (first | exact (Kd.C_below HRA.out HB2.out) | (with_reducible refine Kd.C_alloc ?_ _) | (with_reducible refine Kd.C_drewN ?_ _) | (with_reducible refine Kd.C_drew ?_))); (case side2 => exact HC0.out); rintro e wi ⟨rfl, hb⟩; rw [Int.toNat_natCast, HFT.out]; refine ⟨_, rfl, ?_⟩; have n_ := Aside0.mk (below_step (by repeat (first | (with_reducible first | exact HB2.out | apply below_alloc | apply pw_below_drewN | apply below_drew1) | exact HB2.out)) hb); clear HB2; have HB2 := n_; clear n_; clear hb) | ((with_reducible refine gate_dst (N := 5) rfl ?_); refine box_event ?hg (N := 5) ?hd (cs := #[.int .i64 0, .int .i64 0, .int .i64 0, .int .i64 0, .int .i64 0, .int .i64 0, .int .i64 0, .int .i64 0, .int .i64 0, .int .i64 0, .int .i64 0, .int .i64 0, .int .i64 0, .int .i64 0, .int .i64 0, .int .i64 0, .int .i64 0, .int .i64 0, .int .i64 0, .int .i64 0, .int .i64 0, .int .i64 0, .int .i64 0, .int .i64 0, .int .i64 0, .int .i64 0, .int .i64 0, .int .i64 0, .int .i64 0, .int .i64 0, .int .i64 0, .int .i64 0, .int .i64 0, .int .i64 0, .int .i64 0, .int .i64 0, .int .i64 0, .int .i64 0, .int .i64 0, .int .i64 0, .int .i64 0, .int .i64 0, .int .i64 0, .int .i64 0, .int .i64 0, .int .i64 0, .int .i64 0, .int .i64 0, .int .i64 0, .int .i64 0, .int .i64 0, .int .i64 0, .int .i64 0, .int .i64 0, .int .i64 0, .int .i64 0, .int .i64 0, .int .i64 0, .int .i64 0, .int .i64 0, .int .i64 0, .int .i64 0, .int .i64 0, .int .i64 0]) (t := 60) ?hr ?_; (case hd => rfl); (case hg => rfl); (case hr => first | (go_simp; done) | (go_simp; rfl)); intro g5 hg w5 hbox hb; have GE5 : Aside0 (w1.heap.size ≤ g5) := ⟨by rw [hg]; exact below_size (by repeat (first | (with_reducible first | exact HB2.out | apply below_alloc | apply pw_below_drewN | apply below_drew1) | exact HB2.out))⟩; have n_ := Aside0.mk (Kd.S_below (Kd.S_mono (ok' := fun k_ => k_ ≠ g5) (Kd.S_bound (by (with_reducible repeat (first | apply Kd.S_alloc | apply Kd.S_drewN | apply Kd.S_drew)); exact SL.out)) (fun k_ hk_ => by rw [hg]; exact Nat.ne_of_lt hk_.2.2.1)) hb); clear SL; have SL := n_; clear n_; have n_ := Aside0.mk (below_step (by repeat (first | (with_reducible first | exact HB2.out | apply below_alloc | apply pw_below_drewN | apply below_drew1) | exact HB2.out)) hb); clear HB2; have HB2 := n_; clear n_; have AR5 : Aside0 (Ar (Value.int .i64) 60 w5 g5 (List.replicate 64 (0))) := ⟨hbox⟩; clear hbox hb hg) | ((with_reducible refine gate_store (t := 60) (p := 5) rfl ?_); refine ar_store (by rfl) 60 _ _ (by rfl) g5 ((((List.replicate 64 (0))).map (Value.int .i64))) (((FT).map (Value.int .i64))) (by rfl) (by rfl) (by rfl) AR5.out (by simp [HFL.out]) (by rw [List.length_map, HFL.out]; kernel_rfl) (by intro v hv; obtain ⟨x, _, rfl⟩ := List.mem_map.1 hv; rfl) ?_; intro w8 hst hk hB_; have n_ := Aside0.mk (hB_ _ _ (by repeat (first | (with_reducible first | exact HB2.out | apply below_alloc | apply pw_below_drewN | apply below_drew1) | exact HB2.out)) GE5.out); clear HB2; have HB2 := n_; clear n_; clear AR5; have AR5 : Aside0 (Ar (Value.int .i64) 60 w8 g5 FT) := ⟨hst⟩; have n_ := Aside0.mk (Kd.S_mono (ok' := fun _ => True) (Kd.S_kept (ok := fun k_ => k_ ≠ g5) (by (with_reducible repeat (first | apply Kd.S_alloc | apply Kd.S_drewN | apply Kd.S_drew)); exact SL.out) hk (fun k_ h_ hs_ => h_ hs_)) (fun _ _ => trivial)); clear SL; have SL := n_; clear n_; clear hst hk hB_) | ((with_reducible refine gate_dst (N := 20) rfl ?_); refine Kd.S_lit (Kd.slice 2 (Kd.int .i64)) _ 22 ?hg (N := 20) ?hd (xs := ([] : List (List Int))) (inner := []) (ok := fun _ => True) (okp := fun _ => True) ?hr ?hp (fun _ hk => hk) trivial (Below.refl _ _) (Nat.le_refl _) (by simp) ?_; (case hd => rfl); (case hg => rfl); (case hr => first | (go_simp; done) | (go_simp; rfl)); (case hp => exact (Reps.none _ _)); intro v20 w9 ho3 hb hg_ hnew_; clear hg_ hnew_; have SL := Aside0.mk (Kd.S_lower ho3 (below_size (by repeat (first | (with_reducible first | exact HB2.out | apply below_alloc | apply pw_below_drewN | apply below_drew1) | exact HB2.out)))); have n_ := Aside0.mk (below_step (by repeat (first | (with_reducible first | exact HB2.out | apply below_alloc | apply pw_below_drewN | apply below_drew1) | exact HB2.out)) hb); clear HB2; have HB2 := n_; clear n_; clear hb ho3))
  (try clear hzgb_0 hzgb_1)
  have HB1 := HB
  clear HB HRA
  have HB := HB1
  clear HB1
  go_loopg [6, 7] 30 (fun kq vo vx wr => ∃ (x : Int) (q : Nat), vx = .int .i64 x ∧ Aside0 (q < kq) ∧ Aside0 ((q : Int) + x = (m : Int) ∧ 0 ≤ x) ∧ Aside0 (Mx 2 22 wr w1.heap.size (fun _ => True) vo (r1.take x.toNat)) ∧ Aside0 (Ar (Value.int .i64) 60 wr g5 FT) ∧ Aside0 (Below w1.heap.size w1 wr))
  case atStart => exact ⟨0, m, (by first | rfl | (simp; done) | (simp [*]; done)), ⟨by have := HM.out; omega⟩, ⟨by omega⟩, ⟨(by (with_reducible repeat (first | apply Kd.S_alloc | apply Kd.S_drewN | apply Kd.S_drew)); exact SL.out)⟩, ⟨(by (with_reducible repeat (first | refine ar_alloc ?_ _ | refine ar_drewN ?_ _ | refine ar_drew ?_)); exact AR5.out)⟩, ⟨(by repeat (first | (with_reducible first | exact HB2.out | apply below_alloc | apply pw_below_drewN | apply below_drew1) | exact HB2.out))⟩⟩
  case round =>
    clear SL HB2 AR5
    obtain ⟨x, q, rfl, HQ, HX, SL, AR5, HB2⟩ := hrel
    obtain ⟨wq, rfl⟩ : ∃ x, x = wr := ⟨_, rfl⟩
    (try clear hzgb_0 hzgb_1)
    have hzgb_0 := (HB2.out.cell (World.block_lt_of_cell? w1 _ HCB0.out)).trans HCB0.out
    have hzgb_1 := (HB2.out.cell (World.block_lt_of_cell? w1 _ HCB1.out)).trans HCB1.out
    cases gk with
    | zero => exact absurd HQ.out (Nat.not_lt_zero _)
    | succ k1 =>
    cases q with
    | zero =>
      have cxb : decide (x < (m : Int)) = false := decide_eq_false (by have := HX.out; omega)
      have n_ : Aside0 (Mx 2 22 wq w.heap.size (fun _ => True) u6 r1) := ⟨by have h_ := SL.out; rw [List.take_of_length_le (by rw [HRL.out]; have := HX.out; omega)] at h_; exact Kd.S_lower h_ (below_size HB.out)⟩
      clear SL
      have SL := n_
      clear n_
      have HBF := Aside0.mk (below_step HB.out HB2.out)
      clear HB
      have HB := HBF
      clear HBF
      go_wp2
      go_ret2
      exact ⟨_, rfl, (by (with_reducible repeat (first | apply Kd.S_alloc | apply Kd.S_drewN | apply Kd.S_drew)); exact SL.out), (by repeat (first | (with_reducible first | exact HB.out | apply below_alloc | apply pw_below_drewN | apply below_drew1) | exact HB.out))⟩
    | succ q =>
      have hx0 : 0 ≤ x := HX.out.2
      have hx1 : x < (m : Int) := by have := HX.out; omega
      have cxb : decide (x < (m : Int)) = true := decide_eq_true hx1
      have ppx : (0 ≤ x) = True := eq_true hx0
      have qqx : (x < 8) = True := eq_true (by have := HM.out; omega)
      have HX0 := Aside0.mk hx0
      have HX1 := Aside0.mk hx1
      clear hx0 hx1
      obtain ⟨RX, hRX⟩ : ∃ z, cr.rowH FT m x.toNat = z := ⟨_, rfl⟩
      have HRX := Aside0.mk hRX
      have HXL : Aside0 (RX.length = m) := ⟨by rw [← hRX, cr.rowH_len]⟩
      clear hRX
      have HB4 := Aside0.mk (Below.refl wq.heap.size wq)
      go_wp2_with (first | ((with_reducible refine gate_dst (N := 27) rfl ?_); refine Kd.R_lit (Kd.int .i64) _ 2 ?hg (N := 27) ?hd (xs := ([] : List Int)) (inner := []) (ok := fun _ => True) (okp := fun _ => True) ?hr ?hp (fun _ hk => hk) trivial (Below.refl _ _) (Nat.le_refl _) (by simp) ?_; (case hd => rfl); (case hg => rfl); (case hr => first | (go_simp; done) | (go_simp; rfl)); (case hp => exact (Reps.none _ _)); intro v27 w10 ho hb hg_ hnew_; clear hg_ hnew_; have RO := Aside0.mk (Kd.R_lower ho (below_size (by repeat (first | (with_reducible first | exact HB4.out | apply below_alloc | apply pw_below_drewN | apply below_drew1) | exact HB4.out)))); have n_ := Aside0.mk (below_step (by repeat (first | (with_reducible first | exact HB4.out | apply below_alloc | apply pw_below_drewN | apply below_drew1) | exact HB4.out)) hb); clear HB4; have HB4 := n_; clear n_; clear hb ho))
      go_loopg [8, 9] 30 (fun kq vo vy wr => ∃ (y : Int) (s : Nat), vy = .int .i64 y ∧ Aside0 (s < kq) ∧ Aside0 ((s : Int) + y = (m : Int) ∧ 0 ≤ y) ∧ Aside0 (Kd.R (Kd.int .i64) 2 wr wq.heap.size (fun _ => True) vo (RX.take y.toNat)) ∧ Aside0 (Below wq.heap.size wq wr))
      case atStart => exact ⟨0, m, (by first | rfl | (simp; done) | (simp [*]; done)), ⟨by have := HM.out; omega⟩, ⟨by omega⟩, ⟨(by (with_reducible repeat (first | apply Kd.R_alloc | apply Kd.R_drewN | apply Kd.R_drew)); exact RO.out)⟩, ⟨(by repeat (first | (with_reducible first | exact HB4.out | apply below_alloc | apply pw_below_drewN | apply below_drew1) | exact HB4.out))⟩⟩
      case round =>
        clear RO HB4 hzgb_0 hzgb_1
        obtain ⟨y, s, rfl, HQ2, HY, RO, HB4⟩ := hrel
        have HB5 := below_step HB2.out HB4.out
        have hzgb_0 := (HB5.cell (World.block_lt_of_cell? w1 _ HCB0.out)).trans HCB0.out
        clear HB5
        cases gk with
        | zero => exact absurd HQ2.out (Nat.not_lt_zero _)
        | succ k2 =>
        cases s with
        | succ s =>
          have hy0 : 0 ≤ y := HY.out.2
          have hy1 : y < (m : Int) := by have := HY.out; omega
          have cyb : decide (y < (m : Int)) = true := decide_eq_true hy1
          have ppy : (0 ≤ y) = True := eq_true hy0
          have qqy : (y < 8) = True := eq_true (by have := HM.out; omega)
          have HY0 := Aside0.mk hy0
          have HY1 := Aside0.mk hy1
          clear hy0 hy1
          obtain ⟨hzt, _⟩ := ar_rdN 0 (ar_below AR5.out HB4.out) (x.toNat * 8 + y.toNat) (by rw [HFL.out]; have := HX0.out; have := HX1.out; have := HY0.out; have := HY1.out; have := HM.out; omega)
          obtain ⟨tv, htv⟩ : ∃ v, FT.getD (x.toNat * 8 + y.toNat) 0 = v := ⟨_, rfl⟩
          rw [htv] at hzt
          have HTV := Aside0.mk htv
          clear htv
          go_wp2_with (first | ((with_reducible refine gate_builtin (b := .append) (xs := #[.tmp 34, .tmp 41]) rfl ?_); at_builtin; refine Kd.R_append (Kd.int .i64) (w0 := wq) wq.heap.size rfl (.tmp 34) (.tmp 41) 22 2 (.int .i64 0) 8 rfl Try.underlying22 infoInt rfl (by decide) (by omega) (u8) (RX.take y.toNat) (wrap64 (Int.tdiv tv 2)) [.int .i64 (wrap64 (Int.tdiv tv 2))] (fun _ => True) (fun _ => False) rfl rfl ?aP (fun _ hk => hk.elim) ?aF ?aO ?aB ?aS ?aL ?_; (case aP => exact rfl); (case aB => exact (by repeat (first | (with_reducible first | exact HB4.out | apply below_alloc | apply pw_below_drewN | apply below_drew1) | exact HB4.out))); (case aF => exact (fun _ _ => trivial)); (case aO => exact (by (with_reducible repeat (first | apply Kd.R_alloc | apply Kd.R_drewN | apply Kd.R_drew)); exact RO.out)); (case aS => exact (below_size (by repeat (first | (with_reducible first | exact HB4.out | apply below_alloc | apply pw_below_drewN | apply below_drew1) | exact HB4.out)))); (case aL => rw [List.length_take]; have := HM.out; have := HY0.out; have := HY1.out; omega); intro v8_ w11 ho hb hg hat; clear HB4 RO; have HB4 := Aside0.mk hb; have RO := Aside0.mk ho; clear ho hb hg hat))
          go_roundg k2
          case measure => omega
          case rel =>
            have HW := Aside0.mk (show wrap64 (y + 1) = y + 1 by have := HY0.out; have := HY1.out; have := HM.out; unfold wrap64; omega)
            have HT : Aside0 (RX.take y.toNat ++ [wrap64 (Int.tdiv tv 2)] = RX.take (y + 1).toNat) := ⟨by rw [← HRX.out, ← HTV.out]; exact cr.rowH_take FT m x.toNat y HY0.out HY1.out⟩
            exact ⟨wrap64 (y + 1), s, (by first | rfl | (simp; done) | (simp [*]; done)), ⟨by have := HQ2.out; omega⟩, ⟨by have := HY.out; rw [HW.out]; omega⟩, ⟨by rw [HW.out, ← HT.out]; exact (by (with_reducible repeat (first | apply Kd.R_alloc | apply Kd.R_drewN | apply Kd.R_drew)); exact RO.out)⟩, ⟨(by repeat (first | (with_reducible first | exact HB4.out | apply below_alloc | apply pw_below_drewN | apply below_drew1) | exact HB4.out))⟩⟩
        | zero =>
          have cyb : decide (y < (m : Int)) = false := decide_eq_false (by have := HY.out; omega)
          have n_ : Aside0 (Kd.R (Kd.int .i64) 2 wr wq.heap.size (fun _ => True) u8 RX) := ⟨by have h_ := RO.out; rw [List.take_of_length_le (by rw [HXL.out]; have := HY.out; omega)] at h_; exact h_⟩
          clear RO
          have RO := n_
          clear n_
          obtain ⟨gO, cO, e_, _, _, _⟩ := Kd.R_form RO.out (by rw [HXL.out]; have := HM.out; omega)
          rw [HXL.out] at e_
          subst e_
          have n_ := Aside0.mk (Kd.S_mono (ok' := fun k_ => some k_ ≠ (.slice (some ⟨gO, 0, none⟩) m cO : Value).ownBlock) (Kd.S_bound SL.out) (fun k_ hk_ e_ => Nat.not_le.2 hk_.2.2.1 (Kd.R_base RO.out k_ e_.symm)))
          have n2_ := Aside0.mk (Kd.S_below n_.out HB4.out)
          clear SL n_
          have SL := n2_
          clear n2_
          have n_ := Aside0.mk (Kd.R_lower RO.out (below_size HB2.out)); clear RO; have RO := n_; clear n_
          have n_ := Aside0.mk (below_step HB2.out HB4.out); clear HB2; have HB2 := n_; clear n_
          have n_ : Aside0 (Ar (Value.int .i64) 60 wr g5 FT) := ⟨ar_below AR5.out HB4.out⟩
          clear AR5
          have AR5 := n_
          clear n_ HB4
          go_wp2_with (first | ((with_reducible refine gate_builtin (b := .append) (xs := #[.tmp 43, .tmp 45]) rfl ?_); at_builtin; refine Kd.S_append (Kd.slice 2 (Kd.int .i64)) (w0 := w1) w1.heap.size rfl (.tmp 43) (.tmp 45) 35 22 (.slice none 0 0) 24 rfl Try.underlying35 infoRow rfl (by decide) (by omega) u6 (r1.take x.toNat) RX [(.slice (some ⟨gO, 0, none⟩) m cO : Value)] (fun _ => True) (fun k_ => some k_ = (.slice (some ⟨gO, 0, none⟩) m cO : Value).ownBlock) rfl rfl ?aP (fun k_ hk_ => ((Kd.R_apart' RO.out (Kd.S_typed SL.out) (by decide))).1 k_ hk_.symm) ?aF ?aO ?aB ?aS ?aL ?_; (case aP => exact Kd.M_row (Kd.R_mono (Kd.R_tight rfl (Kd.R_apart' RO.out (Kd.S_typed SL.out) (by decide))) (fun _ h_ => h_))); (case aB => exact (by repeat (first | (with_reducible first | exact HB2.out | apply below_alloc | apply pw_below_drewN | apply below_drew1) | exact HB2.out))); (case aF => exact (fun k_ hk => trivial)); (case aO => exact (by (with_reducible repeat (first | apply Kd.S_alloc | apply Kd.S_drewN | apply Kd.S_drew)); exact Kd.S_mono SL.out (fun k_ hk => ⟨trivial, fun e_ => hk e_⟩))); (case aS => exact (below_size (by repeat (first | (with_reducible first | exact HB2.out | apply below_alloc | apply pw_below_drewN | apply below_drew1) | exact HB2.out)))); (case aL => rw [List.length_take]; have := HM.out; have := HX0.out; have := HX1.out; omega); intro v7_ w12 ho hb hg hat; have n5_ : Aside0 (Ar (Value.int .i64) 60 w12 g5 FT) := ⟨blk_grown (by (with_reducible repeat (first | refine ar_alloc ?_ _ | refine ar_drewN ?_ _ | refine ar_drew ?_)); exact AR5.out) hg (Kd.S_ne SL.out AR5.out (by decide))⟩; clear AR5; have AR5 := n5_; clear n5_; clear SL RO HB2; have SL := Aside0.mk ho; have HB2 := Aside0.mk hb; clear ho hb hg hat))
          go_roundg k1
          case measure => omega
          case rel =>
            have HW := Aside0.mk (show wrap64 (x + 1) = x + 1 by have := HX0.out; have := HX1.out; have := HM.out; unfold wrap64; omega)
            have HT : Aside0 (r1.take x.toNat ++ [RX] = r1.take (x + 1).toNat) := ⟨by rw [← HTB.out, ← HRX.out]; exact cr.tabH_take FT m x HX0.out HX1.out⟩
            exact ⟨wrap64 (x + 1), q, (by first | rfl | (simp; done) | (simp [*]; done)), ⟨by have := HQ.out; omega⟩, ⟨by have := HX.out; rw [HW.out]; omega⟩, ⟨by rw [HW.out, ← HT.out]; exact (by (with_reducible repeat (first | apply Kd.S_alloc | apply Kd.S_drewN | apply Kd.S_drew)); exact SL.out)⟩, ⟨(by (with_reducible repeat (first | refine ar_alloc ?_ _ | refine ar_drewN ?_ _ | refine ar_drew ?_)); exact AR5.out)⟩, ⟨(by repeat (first | (with_reducible first | exact HB2.out | apply below_alloc | apply pw_below_drewN | apply below_drew1) | exact HB2.out))⟩⟩


/-! ### impl_within: function 48 -/
def impl_within.f (a0 : Int) (a1 : Int) (a2 : Int) : Option (Bool) := if a0 ≥ a1 then (some (decide (a0 ≤ a2))) else (some false)
set_option maxHeartbeats 8000000 in
set_option maxRecDepth 100000 in
theorem impl_within.calls (a0 : Int) (a1 : Int) (a2 : Int) (r : Bool) (w : World) (h : impl_within.f a0 a1 a2 = some r) :
    Calls Try.prog 48 #[.int .i64 a0, .int .i64 a1, .int .i64 a2] w fun e w' => e = .returned (.bool r) ∧ Drawn0 w w' := by
  have H : (if a0 ≥ a1 then (some (decide (a0 ≤ a2))) else (some false)) = some r := h
  clear h
  by_cases c4 : a0 ≥ a1
  · rw [if_pos c4] at H
    have c4b0 : decide (a1 ≤ a0) = true := decide_eq_true c4
    clear c4
    obtain rfl := Option.some.inj H
    go_enter Try.func48, Try.ntmps48
    go_wp2
    go_ret
    exact ⟨by first | rfl | (simp; done) | (simp [*]; done), by repeat (first | exact Drawn0.refl _ | apply Drawn0.step)⟩
  · rw [if_neg c4] at H
    have c4b0 : decide (a1 ≤ a0) = false := decide_eq_false c4
    clear c4
    obtain rfl := Option.some.inj H
    go_enter Try.func48, Try.ntmps48
    go_wp2
    go_ret
    exact ⟨by first | rfl | (simp; done) | (simp [*]; done), by repeat (first | exact Drawn0.refl _ | apply Drawn0.step)⟩

/-! ### impl_isCount: function 85 -/
def impl_isCount.f (a0 : Int) : Option (Bool) := (impl_within.f a0 1 8).bind fun t131 => (some t131)
set_option maxHeartbeats 8000000 in
set_option maxRecDepth 100000 in
theorem impl_isCount.calls (a0 : Int) (r : Bool) (w : World) (h : impl_isCount.f a0 = some r) :
    Calls Try.prog 85 #[.int .i64 a0] w fun e w' => e = .returned (.bool r) ∧ Drawn0 w w' := by
  have H : ((impl_within.f a0 1 8).bind fun t131 => (some t131)) = some r := h
  clear h
  replace H := Option.bind_eq_some_iff.mp H
  obtain ⟨t131, A20, H⟩ := H
  replace H : (some t131) = some r := H
  have A2 := Aside0.mk A20
  clear A20
  obtain rfl := Option.some.inj H
  go_enter Try.func85, Try.ntmps85
  go_wp2_with (first | ((with_reducible refine gate_callee (f := 48) rfl ?_); refine goesL_ (some 4) rfl rfl Try.func48 (by kernel_rfl) rfl #[.int .i64 a0, .int .i64 1, .int .i64 8] rfl (by (try simp only [List.map_toArray, List.map_cons, List.map_nil]); first | done | rfl | (simp only [List.length_drop, List.length_take]; rfl)) ?_; (with_reducible refine (impl_within.calls a0 1 8 t131 _ A2.out).mono ?_); rintro e w' ⟨rfl, ⟨nd, rfl⟩⟩; refine ⟨_, rfl, ?_⟩))
  go_ret
  exact ⟨by first | rfl | (simp; done) | (simp [*]; done), by repeat (first | exact Drawn0.refl _ | apply Drawn0.step)⟩

/-! ### impl_isLetter: function 86 -/
def impl_isLetter.f (a0 : Int) (a1 : Int) : Option (Bool) := if a0 = 0 then (some false) else ((impl_within.f a0 (wrap64 (1 - a1)) (wrap64 (a1 - 1))).bind fun t132 => (some t132))
set_option maxHeartbeats 8000000 in
set_option maxRecDepth 100000 in
theorem impl_isLetter.calls (a0 : Int) (a1 : Int) (r : Bool) (w : World) (h : impl_isLetter.f a0 a1 = some r) :
    Calls Try.prog 86 #[.int .i64 a0, .int .i64 a1] w fun e w' => e = .returned (.bool r) ∧ Drawn0 w w' := by
  have H : (if a0 = 0 then (some false) else ((impl_within.f a0 (wrap64 (1 - a1)) (wrap64 (a1 - 1))).bind fun t132 => (some t132))) = some r := h
  clear h
  by_cases c3 : a0 = 0
  · rw [if_pos c3] at H
    have c3b0 : (a0 == 0) = true := beq_iff_eq.mpr c3
    have c3b1 : (a0 != 0) = false := bne_eq_false_iff_eq.mpr c3
    clear c3
    obtain rfl := Option.some.inj H
    go_enter Try.func86, Try.ntmps86
    go_wp2
    go_ret
    exact ⟨by first | rfl | (simp; done) | (simp [*]; done), by repeat (first | exact Drawn0.refl _ | apply Drawn0.step)⟩
  · rw [if_neg c3] at H
    have c3b0 : (a0 == 0) = false := beq_eq_false_iff_ne.mpr c3
    have c3b1 : (a0 != 0) = true := bne_iff_ne.mpr c3
    replace H := Option.bind_eq_some_iff.mp H
    obtain ⟨t132, A40, H⟩ := H
    replace H : (some t132) = some r := H
    have A4 := Aside0.mk A40
    clear A40
    obtain rfl := Option.some.inj H
    go_enter Try.func86, Try.ntmps86
    go_wp2_with (first | (go_at_call 48; (with_reducible refine (impl_within.calls a0 (wrap64 (1 - a1)) (wrap64 (a1 - 1)) t132 _ A4.out).mono ?_); rintro e w' ⟨rfl, ⟨nd, rfl⟩⟩))
    go_ret
    exact ⟨by first | rfl | (simp; done) | (simp [*]; done), by repeat (first | exact Drawn0.refl _ | apply Drawn0.step)⟩

end Go.Proofs.Ytcbomfkimohlfaa.MFnExactLinkingsOf
