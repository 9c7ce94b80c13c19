-- Walks of the functions that a law reaches, one after the other: plain functions, and that the machine's calls come to what they tell (wip/tools/myprint.py of this repo).
import Derived.Test.YtmmoimofjomnlaaMFnExactPlatComponentsx0
import Derived.Test.YtmmoimofjomnlaaMFnExactPlatComponentsx1
import Derived.Test.YtmmoimofjomnlaaLibArr
import Derived.Test.YtmmoimofjomnlaaLibPlat
namespace Go.Proofs.Ytmmoimofjomnlaa.MFnExactPlatComponents
open Go.RowKit Go.Proofs.YtmmoimofjomnlaaW.PrintWords Go.Proofs.YtmmoimofjomnlaaW.PrintLast Go.Proofs.YtmmoimofjomnlaaW.PrintMore
open Go.Proofs.Ytmmoimofjomnlaa.LibPlat
open Go.Proofs.Ytmmoimofjomnlaa.LibArr
attribute [local go_sem] max2_int min2_int max_two min_two max_three min_three max_four min_four   -- for this text's walks alone
set_option linter.unusedVariables false
set_option linter.unusedSimpArgs false

/-! ### spec_PlatComponents: function 5 -/
def plt.ouf : Nat → List Int
  | 0 => List.replicate 16 0
  | k + 1 => (plt.ouf k).set k (if k % 2 = 0 then (k : Int) + 1 else (k : Int) - 1)
theorem plt.ouf_length : ∀ k, (plt.ouf k).length = 16
  | 0 => rfl
  | k + 1 => by rw [plt.ouf, List.length_set]; exact plt.ouf_length k
theorem plt.u8_all : ∀ k ∈ List.range 256, IntKind.u8.wrap (k : Int) = (k : Int) := by decide +kernel
theorem plt.u8 {x : Int} (h : 0 ≤ x ∧ x ≤ 255) : IntKind.u8.wrap x = x := by
  have := plt.u8_all x.toNat (by simp; omega)
  rwa [show ((x.toNat : Nat) : Int) = x by omega] at this
theorem plt.xor_all : ∀ k ∈ List.range 16, bits BinOp.xor IntKind.i64 (k : Int) 1 % 256 = if k % 2 = 0 then (k : Int) + 1 else (k : Int) - 1 := by decide +kernel
theorem plt.xor_eq (x : Int) (h : 0 ≤ x ∧ x < 16) : bits BinOp.xor IntKind.i64 x 1 % 256 = if x.toNat % 2 = 0 then x + 1 else x - 1 := by
  have := plt.xor_all x.toNat (by simp; omega)
  rwa [show ((x.toNat : Nat) : Int) = x by omega] at this
set_option maxHeartbeats 8000000 in
set_option maxRecDepth 100000 in
theorem out_calls (n : Int) (hn : 0 ≤ n ∧ n ≤ 8) (w : World) : Calls Try.prog 12 #[.int .i64 n] w fun e w' => e = .returned (.agg ((plt.ouf (2 * n).toNat).map (Value.int .u8)).toArray) ∧ Below w.heap.size w w' := by
  have hua := Try.underlying36
  have hu5 := Try.underlying5
  have HN := Aside0.mk hn
  clear hn
  have HB := Aside0.mk (Below.refl w.heap.size w)
  go_enter Try.func12, Try.ntmps12
  go_wp2_with (first | ((with_reducible refine gate_dst (N := 2) rfl ?_); refine box_event ?hg (N := 2) ?hd (cs := #[.int .u8 0, .int .u8 0, .int .u8 0, .int .u8 0, .int .u8 0, .int .u8 0, .int .u8 0, .int .u8 0, .int .u8 0, .int .u8 0, .int .u8 0, .int .u8 0, .int .u8 0, .int .u8 0, .int .u8 0, .int .u8 0]) (t := 36) ?hr ?_; (case hd => rfl); (case hg => rfl); (case hr => first | (go_simp; done) | (go_simp; rfl)); intro gr hg w2 hbox hb; have GE_gr : Aside0 (w.heap.size ≤ gr) := ⟨by rw [hg]; exact below_size (by repeat (first | (with_reducible first | exact HB.out | apply below_alloc | apply pw_below_drewN | apply below_drew1) | exact HB.out))⟩; have n_ := Aside0.mk (below_step (by repeat (first | (with_reducible first | exact HB.out | apply below_alloc | apply pw_below_drewN | apply below_drew1) | exact HB.out)) hb); clear HB; have HB := n_; clear n_; have ARr : Aside0 (Ar (Value.int .u8) 36 w2 gr (List.replicate 16 (0))) := ⟨hbox⟩; clear hbox hb hg) | ((with_reducible refine gate_dst (N := 3) rfl ?_); refine box_event ?hg (N := 3) ?hd (cs := #[.int .u8 0, .int .u8 0, .int .u8 0, .int .u8 0, .int .u8 0, .int .u8 0, .int .u8 0, .int .u8 0, .int .u8 0, .int .u8 0, .int .u8 0, .int .u8 0, .int .u8 0, .int .u8 0, .int .u8 0, .int .u8 0]) (t := 36) ?hr ?_; (case hd => rfl); (case hg => rfl); (case hr => first | (go_simp; done) | (go_simp; rfl)); intro go hg w3 hbox hb; have GE_go : Aside0 (w.heap.size ≤ go) := ⟨by rw [hg]; exact below_size (by repeat (first | (with_reducible first | exact HB.out | apply below_alloc | apply pw_below_drewN | apply below_drew1) | exact HB.out))⟩; have NE_gr_go : Aside0 (gr ≠ go) := ⟨by have h_ := blk_lt (by (with_reducible repeat (first | refine ar_alloc ?_ _ | refine ar_drewN ?_ _ | refine ar_drew ?_)); exact ARr.out); have h2_ : go = _ := hg; intro h3_; rw [h3_, h2_] at h_; exact Nat.lt_irrefl _ h_⟩; have n_ := Aside0.mk (ar_below (by (with_reducible repeat (first | refine ar_alloc ?_ _ | refine ar_drewN ?_ _ | refine ar_drew ?_)); exact ARr.out) hb); clear ARr; have ARr := n_; clear n_; have n_ := Aside0.mk (below_step (by repeat (first | (with_reducible first | exact HB.out | apply below_alloc | apply pw_below_drewN | apply below_drew1) | exact HB.out)) hb); clear HB; have HB := n_; clear n_; have ARo : Aside0 (Ar (Value.int .u8) 36 w3 go (List.replicate 16 (0))) := ⟨hbox⟩; clear hbox hb hg) | ((with_reducible refine gate_store (t := 36) (p := 3) rfl ?_); refine ar_store (by rfl) 36 _ _ (by rfl) go ((((List.replicate 16 (0))).map (Value.int .u8))) ((((List.replicate 16 (0))).map (Value.int .u8))) (by rfl) (by rfl) (by rfl) ARo.out (by rfl) (by rw [List.length_map, List.length_replicate]; kernel_rfl) (by intro v hv; obtain ⟨x, _, rfl⟩ := List.mem_map.1 hv; rfl) ?_; intro w4 hst hk hB_; have n_ := Aside0.mk (ar_kept (by (with_reducible repeat (first | refine ar_alloc ?_ _ | refine ar_drewN ?_ _ | refine ar_drew ?_)); exact ARr.out) hk (fun hs_ => NE_gr_go.out hs_)); clear ARr; have ARr := n_; clear n_; have n_ := Aside0.mk (hB_ _ _ (by repeat (first | (with_reducible first | exact HB.out | apply below_alloc | apply pw_below_drewN | apply below_drew1) | exact HB.out)) GE_go.out); clear HB; have HB := n_; clear n_; clear ARo; have ARo := Aside0.mk hst; clear hst hk hB_))
  replace ARo := Aside0.mk (show Ar (Value.int .u8) 36 w4 go (plt.ouf 0) from ARo.out)
  go_loopg [4] (2 * n).toNat (fun gg v4 wr => ∃ x : Int, v4 = .int .i64 x ∧ Aside0 (0 ≤ x ∧ gg + x.toNat = (2 * n).toNat) ∧ Aside0 (Ar (Value.int .u8) 36 wr go (plt.ouf x.toNat)) ∧ Aside0 (Ar (Value.int .u8) 36 wr gr (List.replicate 16 0)) ∧ Aside0 (Below w.heap.size w wr))
  case atStart => exact ⟨0, (by first | rfl | (simp; done) | (simp [*]; done)), ⟨by omega⟩, ARo, ARr, HB⟩
  case round =>
    clear ARo ARr HB
    obtain ⟨x, rfl, HK, ARo, ARr, HB⟩ := hrel
    have HW2 := Aside0.mk (show wrap64 (2 * n) = 2 * n by have := HN.out; unfold wrap64; omega)
    have hw2 : wrap64 (2 * n) = 2 * n := HW2.out
    by_cases hx : x < 2 * n
    · have k1 : decide (x < 2 * n) = true := decide_eq_true hx
      have hxx : 0 ≤ x ∧ x < 16 := by have := HN.out; have := HK.out; omega
      have HX := Aside0.mk hxx
      have HXN := Aside0.mk hx
      obtain ⟨hz, hzf⟩ := ar_rd (0 : Int) ARo.out x 16 (plt.ouf_length _) hxx.1 hxx.2
      have p1 := eq_true hxx.1
      have q1 := eq_true hxx.2
      have d1 : decide (0 ≤ x) = true := decide_eq_true hxx.1
      clear hx hxx
      go_wp2_with (first | ((with_reducible refine gate_store (t := 5) (p := 16) rfl ?_); refine store_event (t := 5) (p := 16) (v := ?vo_w10) (w1 := (World.setCell wr ⟨go, (x : Int).toNat, none⟩ ((Value.int .u8) (bits BinOp.xor IntKind.i64 x 1 % 256)))) ?hg ?ho ?hn ?hr ?_; (case ho => rfl); (case hg => rfl); (case hn => rfl); (case hr => first | (go_simp; done) | (go_simp; rfl)); intro w10 hw; have hk : Kept wr w10 (fun k_ => k_ = go) := (by rw [hw]; exact (Kept.setCell (S := fun k_ => k_ = go) (Kept.refl _ _) (p := ⟨go, _, none⟩) (Or.inl rfl) _)); have hB_ : Below w.heap.size w w10 := (by rw [hw]; exact below_set HB.out GE_go.out); have n_ := Aside0.mk (ar_put ARo.out (x : Int).toNat (bits BinOp.xor IntKind.i64 x 1 % 256) hw); clear ARo; have ARo := n_; clear n_; have n_ := Aside0.mk (ar_kept (by (with_reducible repeat (first | refine ar_alloc ?_ _ | refine ar_drewN ?_ _ | refine ar_drew ?_)); exact ARr.out) hk (fun hs_ => NE_gr_go.out hs_)); clear ARr; have ARr := n_; clear n_; clear HB; have HB := Aside0.mk hB_; clear hk hB_ hw))
      go_roundg ((2 * n).toNat - (x.toNat + 1))
      case measure => have h1_ := HK.out; have h2_ := HXN.out; omega
      case rel =>
        have HW := Aside0.mk (show wrap64 (x + 1) = x + 1 by have := HX.out; unfold wrap64; omega)
        exact ⟨wrap64 (x + 1), (by first | rfl | (simp; done) | (simp [*]; done)), ⟨by have h1_ := HK.out; have h2_ := HXN.out; rw [HW.out]; omega⟩, ⟨by have h1 := ARo.out; rw [plt.xor_eq x HX.out] at h1; rw [HW.out, show (x + 1).toNat = x.toNat + 1 by have h2_ := HX.out; omega, plt.ouf, show ((x.toNat : Nat) : Int) = x by have h2_ := HX.out; omega]; exact h1⟩, ARr, HB⟩
    · have k1 : decide (x < 2 * n) = false := decide_eq_false hx
      have ex : x.toNat = (2 * n).toNat := by have h1_ := HK.out; omega
      have h1 := ARo.out
      rw [ex] at h1
      clear ARo hx
      have ARo := Aside0.mk h1
      have HFL := Aside0.mk (plt.ouf_length (2 * n).toNat)
      clear h1 ex HK
      go_wp2_with (first | ((with_reducible refine gate_dst (N := 17) rfl ?_); refine ar_load (by rfl) 36 _ (by rfl) go (((plt.ouf (2 * n).toNat).map (Value.int .u8))) _ (by rfl) ARo.out hua rfl (by rw [List.length_map, HFL.out]; kernel_rfl) ?_) | ((with_reducible refine gate_store (t := 36) (p := 2) rfl ?_); refine ar_store (by rfl) 36 _ _ (by rfl) gr ((((List.replicate 16 (0))).map (Value.int .u8))) (((plt.ouf (2 * n).toNat).map (Value.int .u8))) (by rfl) (by rfl) (by rfl) ARr.out (by simp [HFL.out]) (by rw [List.length_map, HFL.out]; kernel_rfl) (by intro v hv; obtain ⟨x, _, rfl⟩ := List.mem_map.1 hv; rfl) ?_; intro w12 hst hk hB_; have n_ := Aside0.mk (ar_kept (by (with_reducible repeat (first | refine ar_alloc ?_ _ | refine ar_drewN ?_ _ | refine ar_drew ?_)); exact ARo.out) hk (fun hs_ => (Ne.symm NE_gr_go.out) hs_)); clear ARo; have ARo := n_; clear n_; have n_ := Aside0.mk (hB_ _ _ (by repeat (first | (with_reducible first | exact HB.out | apply below_alloc | apply pw_below_drewN | apply below_drew1) | exact HB.out)) GE_gr.out); clear HB; have HB := n_; clear n_; clear ARr; have ARr := Aside0.mk hst; clear hst hk hB_))
      refine bodyPost_ret (results_cell_row rfl _ _ gr 36 _ (0, 0) _ rfl ARr.out Try.underlying36 rfl (by rw [List.size_toArray, List.length_map, HFL.out]; kernel_rfl)) rfl ?_
      exact ⟨rfl, HB.out⟩
def plt.pr (n : Int) (e : List Int) : Nat → List Int
  | 0 => List.replicate 16 0
  | k + 1 => ((plt.pr n e k).set k (n + rd e (k : Int))).set (n + rd e (k : Int)).toNat (k : Int)
theorem plt.pr_length (n : Int) (e : List Int) : ∀ k, (plt.pr n e k).length = 16
  | 0 => rfl
  | k + 1 => by rw [plt.pr, List.length_set, List.length_set]; exact plt.pr_length n e k
mutual
def plt.l0 (m : Int) (pr ou : List Int) : Nat → List Bool → Int → Int → Option Int
  | 0, _, _, _ => none
  | k + 1, met, x, c => if x < m then (if met.getD x.toNat false = true then plt.l0 m pr ou k met (x + 1) c else plt.l1 m pr ou k met x (c + 1) x) else some c
def plt.l1 (m : Int) (pr ou : List Int) : Nat → List Bool → Int → Int → Int → Option Int
  | 0, _, _, _, _ => none
  | k + 1, met, x, c, y => if met.getD y.toNat false = true then plt.l0 m pr ou k met (x + 1) c else plt.l1 m pr ou k ((met.set y.toNat true).set (rd pr y).toNat true) x c (rd ou (rd pr y))
end
theorem plt.mono_l (m : Int) (pr ou : List Int) : ∀ k, (∀ y0 y1 y2, LeO (plt.l0 m pr ou k y0 y1 y2) (plt.l0 m pr ou (k + 1) y0 y1 y2)) ∧ (∀ y0 y1 y2 y3, LeO (plt.l1 m pr ou k y0 y1 y2 y3) (plt.l1 m pr ou (k + 1) y0 y1 y2 y3))
  | 0 => ⟨fun _ _ _ r h => by simp [plt.l0] at h, fun _ _ _ _ r h => by simp [plt.l1] at h⟩
  | k + 1 => by
    obtain ⟨ih0, ih1⟩ := plt.mono_l m pr ou k
    refine ⟨?_, ?_⟩
    · intro y0 y1 y2
      unfold plt.l0
      exact LeO.ite (LeO.ite (ih0 _ _ _) (ih1 _ _ _ _)) (LeO.refl _)
    · intro y0 y1 y2 y3
      unfold plt.l1
      exact LeO.ite (ih0 _ _ _) (ih1 _ _ _ _)
theorem plt.l0_le {m : Int} {pr ou : List Int} {k k' : Nat} {y0 : List Bool} {y1 y2 : Int} {r : Int} (hk : k + 1 ≤ k') (h : plt.l0 m pr ou k y0 y1 y2 = some r) : plt.l0 m pr ou k' y0 y1 y2 = some r :=
  at_rounds (fun k => (plt.mono_l m pr ou k).1 y0 y1 y2) (by omega) h
def plt.in16 (l : List Int) : Bool := decide (l.length = 16) && l.all fun z => decide (0 ≤ z ∧ z < 16)
theorem plt.in16_iff {l : List Int} (h : plt.in16 l = true) : l.length = 16 ∧ ∀ y : Int, 0 ≤ y ∧ y < 16 → 0 ≤ rd l y ∧ rd l y < 16 := by
  simp only [plt.in16, Bool.and_eq_true, decide_eq_true_eq, List.all_eq_true] at h
  refine ⟨h.1, fun y hy => h.2 _ ?_⟩
  unfold rd
  rw [List.getD_eq_getElem?_getD, List.getElem?_eq_getElem (by omega : y.toNat < l.length)]
  exact List.getElem_mem _
def plt.good (n : Int) (l : List Int) : Bool := decide (1 ≤ n ∧ n ≤ 8) && decide (l.length ≤ 200) && l.all fun x => decide (1 ≤ mx x (wrap64 (-x)) ∧ mx x (wrap64 (-x)) ≤ 7)
theorem plt.good_iff {n : Int} {l : List Int} (h : plt.good n l = true) : (1 ≤ n ∧ n ≤ 8) ∧ l.length ≤ 200 ∧ ∀ x ∈ l, GenK x := by
  simp only [plt.good, Bool.and_eq_true, decide_eq_true_eq, List.all_eq_true] at h
  exact ⟨h.1.1, h.1.2, h.2⟩
def spec_PlatComponents.g (k : Nat) (n : Int) (e : List Int) : Option Int := if plt.in16 (plt.pr n e n.toNat) = true ∧ plt.in16 (plt.ouf (2 * n).toNat) = true then plt.l0 (2 * n) (plt.pr n e n.toNat) (plt.ouf (2 * n).toNat) k (List.replicate 16 false) 0 0 else none
def spec_PlatComponents.f (k : Nat) (a0_0 : Int) (l0_1 : List Int) : Option (Int × Int) := (spec_l01Is.f k a0_0 l0_1).bind fun t => if t = true then (if plt.good a0_0 l0_1 = true then (if Int.tmod a0_0 2 = 0 then (spec_PlatComponents.g k a0_0 (permL a0_0 l0_1)).bind fun c => some (c, 0) else some (0, 5)) else none) else some (0, 1)
theorem spec_PlatComponents.mono : ∀ a0 a1 k, LeO (spec_PlatComponents.f k a0 a1) (spec_PlatComponents.f (k + 1) a0 a1) := by
  intro a0 a1 k
  unfold spec_PlatComponents.f spec_PlatComponents.g
  exact LeO.bind (spec_l01Is.mono _ _ _) (fun _ => LeO.ite (LeO.ite (LeO.ite (LeO.bind (LeO.ite ((plt.mono_l _ _ _ _).1 _ _ _) (LeO.refl _)) (fun _ => LeO.refl _)) (LeO.refl _)) (LeO.refl _)) (LeO.refl _))
def plq.T9 : Bool × List (List Nat × List Nat) := (true, [([], []), ([], []), ([1], [1]), ([2], [2]), ([], []), ([4], [4]), ([5], [5]), ([3, 6], [3, 6]), ([0, 0, 1, 2, 3, 4, 5, 6, 7], [0]), ([8, 7, 0, 1, 2, 3, 4, 5, 6, 7], [7, 8])])
def plq.B9 : List Nat := [0, 0, 2, 6, 0, 16, 48, 126, 255, 511]
theorem plq.tab9 : rtab .any (opsOf Try.f5 9) = plq.T9 := by kernel_rfl
theorem plq.bits9 : waitsOk plq.T9.2 plq.B9 = true := by kernel_rfl
set_option maxHeartbeats 8000000 in
set_option maxRecDepth 100000 in
theorem spec_PlatComponents.calls (k : Nat) (a0_0 : Int) (A0_1 : Option Addr) (c0_1 : Nat) (l0_1 : List Int) (r1 : Int) (r2 : Int) (w : World) (hr0_1 : Kd.C (Kd.int .i64) w A0_1 l0_1.length l0_1) (hc0_1 : l0_1.length ≤ c0_1) (h : spec_PlatComponents.f k a0_0 l0_1 = some (r1, r2)) :
    Calls Try.prog 5 #[.agg #[.int .i64 a0_0, .slice A0_1 l0_1.length c0_1]] w fun e w' => e = .returned (.tuple #[.int .i64 r1, .int .i64 r2]) ∧ Below w.heap.size w w' := by
  have hu := Try.underlying28
  have hua := Try.underlying36
  have hu8 := Try.underlying34
  have hub := Try.underlying38
  have hu5 := Try.underlying5
  have HR0 := Aside0.mk hr0_1
  have HC0 := Aside0.mk hc0_1
  clear hr0_1 hc0_1
  have HB := Aside0.mk (Below.refl w.heap.size w)
  have H := h
  clear h
  unfold spec_PlatComponents.f at H
  obtain ⟨t1, A1, H⟩ := Option.bind_eq_some_iff.mp H
  replace A1 := Aside0.mk A1
  cases t1 with
  | false =>
    simp only [Bool.false_eq_true, if_false, Option.some.injEq, Prod.mk.injEq] at H
    obtain ⟨rfl, rfl⟩ := H
    go_enter Try.func5, Try.ntmps5
    go_wp2_with (first | ((with_reducible refine gate_dst (N := 1) rfl ?_); refine box_event ?hg (N := 1) ?hd (cs := #[.int .i64 a0_0, .slice A0_1 l0_1.length c0_1]) (t := 28) ?hr ?_; (case hd => rfl); (case hg => rfl); (case hr => first | (go_simp; done) | (go_simp; rfl)); intro gb hg w1 hbox hb; have GE_gb : Aside0 (w.heap.size ≤ gb) := ⟨by rw [hg]; exact below_size (by repeat (first | (with_reducible first | exact HB.out | apply below_alloc | apply pw_below_drewN | apply below_drew1) | exact HB.out))⟩; have n_ := Aside0.mk (below_step (by repeat (first | (with_reducible first | exact HB.out | apply below_alloc | apply pw_below_drewN | apply below_drew1) | exact HB.out)) hb); clear HB; have HB := n_; clear n_; have BKb := Aside0.mk hbox; clear hbox hb hg; (try clear hzgb_0 hfgb_0 hzgb_1 hfgb_1); have hzgb_0 := (blk_cell BKb.out 0).trans rfl; have hfgb_0 := blk_frozen BKb.out 0; have hzgb_1 := (blk_cell BKb.out 1).trans rfl; have hfgb_1 := blk_frozen BKb.out 1) | ((with_reducible refine gate_callee (f := 10) rfl ?_); refine goesL_ (some 14) rfl rfl Try.func10 (by kernel_rfl) rfl #[.agg #[.int .i64 a0_0, .slice A0_1 l0_1.length c0_1]] rfl (by (try simp only [List.map_toArray, List.map_cons, List.map_nil]); first | done | rfl) ?_; (with_reducible refine (spec_l01Is.calls k a0_0 _ _ l0_1 _ _ ?side1 ?side2 A1.out).mono ?_); (case side1 => repeat (first | exact (Kd.C_below HR0.out HB.out) | (with_reducible refine Kd.C_alloc ?_ _) | (with_reducible refine Kd.C_drewN ?_ _) | (with_reducible refine Kd.C_drew ?_))); (case side2 => exact HC0.out); rintro e wi ⟨rfl, hb⟩; refine ⟨_, rfl, ?_⟩; have n_ := Aside0.mk (blk_below (by (with_reducible repeat (first | refine blk_drewN ?_ _ | refine blk_drew ?_ | refine blk_alloc ?_ _)); exact BKb.out) hb); clear BKb; have BKb := n_; clear n_; have n_ := Aside0.mk (below_step (by repeat (first | (with_reducible first | exact HB.out | apply below_alloc | apply pw_below_drewN | apply below_drew1) | exact HB.out)) hb); clear HB; have HB := n_; clear n_; (try clear hzgb_0 hfgb_0 hzgb_1 hfgb_1); have hzgb_0 := (blk_cell BKb.out 0).trans rfl; have hfgb_0 := blk_frozen BKb.out 0; have hzgb_1 := (blk_cell BKb.out 1).trans rfl; have hfgb_1 := blk_frozen BKb.out 1; clear hb))
    go_ret2
    exact ⟨rfl, (by repeat (first | (with_reducible first | exact HB.out | apply below_alloc | apply pw_below_drewN | apply below_drew1) | exact HB.out))⟩
  | true =>
    simp only [if_true] at H
    by_cases hg : plt.good a0_0 l0_1 = true
    case neg => rw [if_neg hg] at H; cases H
    rw [if_pos hg] at H
    obtain ⟨hn, hl, hgn⟩ := plt.good_iff hg
    have HN := Aside0.mk hn
    have HL := Aside0.mk hl
    have HGN := Aside0.mk hgn
    clear hg hn hl hgn
    by_cases hm : Int.tmod a0_0 2 = 0
    case neg =>
      rw [if_neg hm] at H
      have hm1 : (Int.tmod a0_0 2 == 0) = false := by simp [hm]
      have hm2 : (Int.tmod a0_0 2 != 0) = true := by simp [hm]
      simp only [Option.some.injEq, Prod.mk.injEq] at H
      obtain ⟨rfl, rfl⟩ := H
      clear hm
      go_enter Try.func5, Try.ntmps5
      go_wp2_with (first | ((with_reducible refine gate_dst (N := 1) rfl ?_); refine box_event ?hg (N := 1) ?hd (cs := #[.int .i64 a0_0, .slice A0_1 l0_1.length c0_1]) (t := 28) ?hr ?_; (case hd => rfl); (case hg => rfl); (case hr => first | (go_simp; done) | (go_simp; rfl)); intro gb hg w1 hbox hb; have GE_gb : Aside0 (w.heap.size ≤ gb) := ⟨by rw [hg]; exact below_size (by repeat (first | (with_reducible first | exact HB.out | apply below_alloc | apply pw_below_drewN | apply below_drew1) | exact HB.out))⟩; have n_ := Aside0.mk (below_step (by repeat (first | (with_reducible first | exact HB.out | apply below_alloc | apply pw_below_drewN | apply below_drew1) | exact HB.out)) hb); clear HB; have HB := n_; clear n_; have BKb := Aside0.mk hbox; clear hbox hb hg; (try clear hzgb_0 hfgb_0 hzgb_1 hfgb_1); have hzgb_0 := (blk_cell BKb.out 0).trans rfl; have hfgb_0 := blk_frozen BKb.out 0; have hzgb_1 := (blk_cell BKb.out 1).trans rfl; have hfgb_1 := blk_frozen BKb.out 1) | ((with_reducible refine gate_callee (f := 10) rfl ?_); refine goesL_ (some 14) rfl rfl Try.func10 (by kernel_rfl) rfl #[.agg #[.int .i64 a0_0, .slice A0_1 l0_1.length c0_1]] rfl (by (try simp only [List.map_toArray, List.map_cons, List.map_nil]); first | done | rfl) ?_; (with_reducible refine (spec_l01Is.calls k a0_0 _ _ l0_1 _ _ ?side1 ?side2 A1.out).mono ?_); (case side1 => repeat (first | exact (Kd.C_below HR0.out HB.out) | (with_reducible refine Kd.C_alloc ?_ _) | (with_reducible refine Kd.C_drewN ?_ _) | (with_reducible refine Kd.C_drew ?_))); (case side2 => exact HC0.out); rintro e wi ⟨rfl, hb⟩; refine ⟨_, rfl, ?_⟩; have n_ := Aside0.mk (blk_below (by (with_reducible repeat (first | refine blk_drewN ?_ _ | refine blk_drew ?_ | refine blk_alloc ?_ _)); exact BKb.out) hb); clear BKb; have BKb := n_; clear n_; have n_ := Aside0.mk (below_step (by repeat (first | (with_reducible first | exact HB.out | apply below_alloc | apply pw_below_drewN | apply below_drew1) | exact HB.out)) hb); clear HB; have HB := n_; clear n_; (try clear hzgb_0 hfgb_0 hzgb_1 hfgb_1); have hzgb_0 := (blk_cell BKb.out 0).trans rfl; have hfgb_0 := blk_frozen BKb.out 0; have hzgb_1 := (blk_cell BKb.out 1).trans rfl; have hfgb_1 := blk_frozen BKb.out 1; clear hb))
      go_ret2
      exact ⟨rfl, (by repeat (first | (with_reducible first | exact HB.out | apply below_alloc | apply pw_below_drewN | apply below_drew1) | exact HB.out))⟩
    rw [if_pos hm] at H
    have hm1 : (Int.tmod a0_0 2 == 0) = true := by simp [hm]
    have hm2 : (Int.tmod a0_0 2 != 0) = false := by simp [hm]
    obtain ⟨c, H1, H2⟩ := Option.bind_eq_some_iff.mp H
    simp only [Option.some.injEq, Prod.mk.injEq] at H2
    obtain ⟨rfl, rfl⟩ := H2
    unfold spec_PlatComponents.g at H1
    by_cases hi : plt.in16 (plt.pr a0_0 (permL a0_0 l0_1) a0_0.toNat) = true ∧ plt.in16 (plt.ouf (2 * a0_0).toNat) = true
    case neg => rw [if_neg hi] at H1; cases H1
    rw [if_pos hi] at H1
    have HI := Aside0.mk (And.intro (plt.in16_iff hi.1) (plt.in16_iff hi.2))
    have HF := Aside0.mk H1
    clear H H1 hi hm
    have HPI := Aside0.mk (permGo_in (l0_1.foldl sw (fillL a0_0.toNat)) a0_0.toNat (by have := HN.out; omega))
    have HPL := Aside0.mk (show (permL a0_0 l0_1).length = 8 from HPI.out.1)
    go_enter Try.func5, Try.ntmps5
    go_wp2_with (first | ((with_reducible refine gate_dst (N := 1) rfl ?_); refine box_event ?hg (N := 1) ?hd (cs := #[.int .i64 a0_0, .slice A0_1 l0_1.length c0_1]) (t := 28) ?hr ?_; (case hd => rfl); (case hg => rfl); (case hr => first | (go_simp; done) | (go_simp; rfl)); intro gb hg w1 hbox hb; have GE_gb : Aside0 (w.heap.size ≤ gb) := ⟨by rw [hg]; exact below_size (by repeat (first | (with_reducible first | exact HB.out | apply below_alloc | apply pw_below_drewN | apply below_drew1) | exact HB.out))⟩; have n_ := Aside0.mk (below_step (by repeat (first | (with_reducible first | exact HB.out | apply below_alloc | apply pw_below_drewN | apply below_drew1) | exact HB.out)) hb); clear HB; have HB := n_; clear n_; have BKb := Aside0.mk hbox; clear hbox hb hg; (try clear hzgb_0 hfgb_0 hzgb_1 hfgb_1); have hzgb_0 := (blk_cell BKb.out 0).trans rfl; have hfgb_0 := blk_frozen BKb.out 0; have hzgb_1 := (blk_cell BKb.out 1).trans rfl; have hfgb_1 := blk_frozen BKb.out 1) | ((with_reducible refine gate_callee (f := 10) rfl ?_); refine goesL_ (some 14) rfl rfl Try.func10 (by kernel_rfl) rfl #[.agg #[.int .i64 a0_0, .slice A0_1 l0_1.length c0_1]] rfl (by (try simp only [List.map_toArray, List.map_cons, List.map_nil]); first | done | rfl) ?_; (with_reducible refine (spec_l01Is.calls k a0_0 _ _ l0_1 _ _ ?side1 ?side2 A1.out).mono ?_); (case side1 => repeat (first | exact (Kd.C_below HR0.out HB.out) | (with_reducible refine Kd.C_alloc ?_ _) | (with_reducible refine Kd.C_drewN ?_ _) | (with_reducible refine Kd.C_drew ?_))); (case side2 => exact HC0.out); rintro e wi ⟨rfl, hb⟩; refine ⟨_, rfl, ?_⟩; have n_ := Aside0.mk (blk_below (by (with_reducible repeat (first | refine blk_drewN ?_ _ | refine blk_drew ?_ | refine blk_alloc ?_ _)); exact BKb.out) hb); clear BKb; have BKb := n_; clear n_; have n_ := Aside0.mk (below_step (by repeat (first | (with_reducible first | exact HB.out | apply below_alloc | apply pw_below_drewN | apply below_drew1) | exact HB.out)) hb); clear HB; have HB := n_; clear n_; (try clear hzgb_0 hfgb_0 hzgb_1 hfgb_1); have hzgb_0 := (blk_cell BKb.out 0).trans rfl; have hfgb_0 := blk_frozen BKb.out 0; have hzgb_1 := (blk_cell BKb.out 1).trans rfl; have hfgb_1 := blk_frozen BKb.out 1; clear hb) | ((with_reducible refine gate_callee (f := 11) rfl ?_); refine goesL_ (some 25) rfl rfl Try.func11 (by kernel_rfl) rfl #[.int .i64 a0_0, .slice A0_1 l0_1.length c0_1] rfl (by (try simp only [List.map_toArray, List.map_cons, List.map_nil]); first | done | rfl) ?_; (refine (perm_calls a0_0 (by have h_ := HN.out; omega) _ _ l0_1 HGN.out _ ?side1 ?side2).mono ?_); (case side1 => repeat (first | exact (Kd.C_below HR0.out HB.out) | (with_reducible refine Kd.C_alloc ?_ _) | (with_reducible refine Kd.C_drewN ?_ _) | (with_reducible refine Kd.C_drew ?_))); (case side2 => exact HC0.out); rintro e wc ⟨rfl, hb⟩; refine ⟨_, rfl, ?_⟩; have n_ := Aside0.mk (blk_below (by (with_reducible repeat (first | refine blk_drewN ?_ _ | refine blk_drew ?_ | refine blk_alloc ?_ _)); exact BKb.out) hb); clear BKb; have BKb := n_; clear n_; have n_ := Aside0.mk (below_step (by repeat (first | (with_reducible first | exact HB.out | apply below_alloc | apply pw_below_drewN | apply below_drew1) | exact HB.out)) hb); clear HB; have HB := n_; clear n_; (try clear hzgb_0 hfgb_0 hzgb_1 hfgb_1); have hzgb_0 := (blk_cell BKb.out 0).trans rfl; have hfgb_0 := blk_frozen BKb.out 0; have hzgb_1 := (blk_cell BKb.out 1).trans rfl; have hfgb_1 := blk_frozen BKb.out 1; clear hb) | ((with_reducible refine gate_dst (N := 4) rfl ?_); refine box_event ?hg (N := 4) ?hd (cs := #[.int .u8 0, .int .u8 0, .int .u8 0, .int .u8 0, .int .u8 0, .int .u8 0, .int .u8 0, .int .u8 0]) (t := 34) ?hr ?_; (case hd => rfl); (case hg => rfl); (case hr => first | (go_simp; done) | (go_simp; rfl)); intro ge hg w4 hbox hb; have GE_ge : Aside0 (w.heap.size ≤ ge) := ⟨by rw [hg]; exact below_size (by repeat (first | (with_reducible first | exact HB.out | apply below_alloc | apply pw_below_drewN | apply below_drew1) | exact HB.out))⟩; have NE_gb_ge : Aside0 (gb ≠ ge) := ⟨by have h_ := blk_lt (by (with_reducible repeat (first | refine blk_drewN ?_ _ | refine blk_drew ?_ | refine blk_alloc ?_ _)); exact BKb.out); have h2_ : ge = _ := hg; intro h3_; rw [h3_, h2_] at h_; exact Nat.lt_irrefl _ h_⟩; have n_ := Aside0.mk (blk_below (by (with_reducible repeat (first | refine blk_drewN ?_ _ | refine blk_drew ?_ | refine blk_alloc ?_ _)); exact BKb.out) hb); clear BKb; have BKb := n_; clear n_; have n_ := Aside0.mk (below_step (by repeat (first | (with_reducible first | exact HB.out | apply below_alloc | apply pw_below_drewN | apply below_drew1) | exact HB.out)) hb); clear HB; have HB := n_; clear n_; (try clear hzgb_0 hfgb_0 hzgb_1 hfgb_1); have hzgb_0 := (blk_cell BKb.out 0).trans rfl; have hfgb_0 := blk_frozen BKb.out 0; have hzgb_1 := (blk_cell BKb.out 1).trans rfl; have hfgb_1 := blk_frozen BKb.out 1; have ARe : Aside0 (Ar (Value.int .u8) 34 w4 ge (List.replicate 8 (0))) := ⟨hbox⟩; clear hbox hb hg) | ((with_reducible refine gate_dst (N := 5) rfl ?_); refine box_event ?hg (N := 5) ?hd (cs := #[.int .u8 0, .int .u8 0, .int .u8 0, .int .u8 0, .int .u8 0, .int .u8 0, .int .u8 0, .int .u8 0, .int .u8 0, .int .u8 0, .int .u8 0, .int .u8 0, .int .u8 0, .int .u8 0, .int .u8 0, .int .u8 0]) (t := 36) ?hr ?_; (case hd => rfl); (case hg => rfl); (case hr => first | (go_simp; done) | (go_simp; rfl)); intro gp hg w5 hbox hb; have GE_gp : Aside0 (w.heap.size ≤ gp) := ⟨by rw [hg]; exact below_size (by repeat (first | (with_reducible first | exact HB.out | apply below_alloc | apply pw_below_drewN | apply below_drew1) | exact HB.out))⟩; have NE_gb_gp : Aside0 (gb ≠ gp) := ⟨by have h_ := blk_lt (by (with_reducible repeat (first | refine blk_drewN ?_ _ | refine blk_drew ?_ | refine blk_alloc ?_ _)); exact BKb.out); have h2_ : gp = _ := hg; intro h3_; rw [h3_, h2_] at h_; exact Nat.lt_irrefl _ h_⟩; have NE_ge_gp : Aside0 (ge ≠ gp) := ⟨by have h_ := blk_lt (by (with_reducible repeat (first | refine ar_alloc ?_ _ | refine ar_drewN ?_ _ | refine ar_drew ?_)); exact ARe.out); have h2_ : gp = _ := hg; intro h3_; rw [h3_, h2_] at h_; exact Nat.lt_irrefl _ h_⟩; have n_ := Aside0.mk (blk_below (by (with_reducible repeat (first | refine blk_drewN ?_ _ | refine blk_drew ?_ | refine blk_alloc ?_ _)); exact BKb.out) hb); clear BKb; have BKb := n_; clear n_; have n_ := Aside0.mk (ar_below (by (with_reducible repeat (first | refine ar_alloc ?_ _ | refine ar_drewN ?_ _ | refine ar_drew ?_)); exact ARe.out) hb); clear ARe; have ARe := n_; clear n_; have n_ := Aside0.mk (below_step (by repeat (first | (with_reducible first | exact HB.out | apply below_alloc | apply pw_below_drewN | apply below_drew1) | exact HB.out)) hb); clear HB; have HB := n_; clear n_; (try clear hzgb_0 hfgb_0 hzgb_1 hfgb_1); have hzgb_0 := (blk_cell BKb.out 0).trans rfl; have hfgb_0 := blk_frozen BKb.out 0; have hzgb_1 := (blk_cell BKb.out 1).trans rfl; have hfgb_1 := blk_frozen BKb.out 1; have ARp : Aside0 (Ar (Value.int .u8) 36 w5 gp (List.replicate 16 (0))) := ⟨hbox⟩; clear hbox hb hg) | ((with_reducible refine gate_store (t := 34) (p := 4) rfl ?_); refine ar_store (by rfl) 34 _ _ (by rfl) ge ((((List.replicate 8 (0))).map (Value.int .u8))) (((permL a0_0 l0_1).map (Value.int .u8))) (by rfl) (by rfl) (by rfl) ARe.out (by simp [HPL.out]) (by rw [List.length_map, HPL.out]; kernel_rfl) (by intro v hv; obtain ⟨x, _, rfl⟩ := List.mem_map.1 hv; rfl) ?_; intro w6 hst hk hB_; have n_ := Aside0.mk (blk_kept (by (with_reducible repeat (first | refine blk_drewN ?_ _ | refine blk_drew ?_ | refine blk_alloc ?_ _)); exact BKb.out) hk (fun hs_ => NE_gb_ge.out hs_)); clear BKb; have BKb := n_; clear n_; have n_ := Aside0.mk (ar_kept (by (with_reducible repeat (first | refine ar_alloc ?_ _ | refine ar_drewN ?_ _ | refine ar_drew ?_)); exact ARp.out) hk (fun hs_ => (Ne.symm NE_ge_gp.out) hs_)); clear ARp; have ARp := n_; clear n_; have n_ := Aside0.mk (hB_ _ _ (by repeat (first | (with_reducible first | exact HB.out | apply below_alloc | apply pw_below_drewN | apply below_drew1) | exact HB.out)) GE_ge.out); clear HB; have HB := n_; clear n_; clear ARe; have ARe := Aside0.mk hst; clear hst hk hB_; (try clear hzgb_0 hfgb_0 hzgb_1 hfgb_1); have hzgb_0 := (blk_cell BKb.out 0).trans rfl; have hfgb_0 := blk_frozen BKb.out 0; have hzgb_1 := (blk_cell BKb.out 1).trans rfl; have hfgb_1 := blk_frozen BKb.out 1) | ((with_reducible refine gate_store (t := 36) (p := 5) rfl ?_); refine ar_store (by rfl) 36 _ _ (by rfl) gp ((((List.replicate 16 (0))).map (Value.int .u8))) ((((List.replicate 16 (0))).map (Value.int .u8))) (by rfl) (by rfl) (by rfl) ARp.out (by rfl) (by rw [List.length_map, List.length_replicate]; kernel_rfl) (by intro v hv; obtain ⟨x, _, rfl⟩ := List.mem_map.1 hv; rfl) ?_; intro w7 hst hk hB_; have n_ := Aside0.mk (blk_kept (by (with_reducible repeat (first | refine blk_drewN ?_ _ | refine blk_drew ?_ | refine blk_alloc ?_ _)); exact BKb.out) hk (fun hs_ => NE_gb_gp.out hs_)); clear BKb; have BKb := n_; clear n_; have n_ := Aside0.mk (ar_kept (by (with_reducible repeat (first | refine ar_alloc ?_ _ | refine ar_drewN ?_ _ | refine ar_drew ?_)); exact ARe.out) hk (fun hs_ => NE_ge_gp.out hs_)); clear ARe; have ARe := n_; clear n_; have n_ := Aside0.mk (hB_ _ _ (by repeat (first | (with_reducible first | exact HB.out | apply below_alloc | apply pw_below_drewN | apply below_drew1) | exact HB.out)) GE_gp.out); clear HB; have HB := n_; clear n_; clear ARp; have ARp := Aside0.mk hst; clear hst hk hB_; (try clear hzgb_0 hfgb_0 hzgb_1 hfgb_1); have hzgb_0 := (blk_cell BKb.out 0).trans rfl; have hfgb_0 := blk_frozen BKb.out 0; have hzgb_1 := (blk_cell BKb.out 1).trans rfl; have hfgb_1 := blk_frozen BKb.out 1))
    obtain ⟨e, he_⟩ : ∃ e, permL a0_0 l0_1 = e := ⟨_, rfl⟩
    have HEI := Aside0.mk (show In8 e by rw [← he_]; exact HPI.out)
    rw [he_] at HPL HF HI
    have ARe2 := Aside0.mk (show Ar (Value.int .u8) 34 w7 ge e by have h_ := ARe.out; rw [he_] at h_; exact h_)
    clear ARe HPI he_
    have ARe := ARe2
    clear ARe2
    have ARp2 := Aside0.mk (show Ar (Value.int .u8) 36 w7 gp (plt.pr a0_0 e 0) from ARp.out)
    clear ARp
    have ARp := ARp2
    clear ARp2
    go_loopg [6] a0_0.toNat (fun gg v6 wr => ∃ x : Int, v6 = .int .i64 x ∧ Aside0 (0 ≤ x ∧ gg + x.toNat = a0_0.toNat) ∧ Aside0 (Ar (Value.int .u8) 36 wr gp (plt.pr a0_0 e x.toNat)) ∧ Aside0 (Ar (Value.int .u8) 34 wr ge (e)) ∧ Aside0 (wr.heap[gb]? = some (.cells #[.int .i64 a0_0, .slice A0_1 l0_1.length c0_1] 28 (0, 0))) ∧ Aside0 (Below w.heap.size w wr))
    case atStart => exact ⟨0, (by first | rfl | (simp; done) | (simp [*]; done)), ⟨by omega⟩, ARp, ARe, BKb, HB⟩
    case round =>
      clear ARp ARe BKb HB hzgb_0 hzgb_1 hfgb_0 hfgb_1
      obtain ⟨x, rfl, HK, ARp, ARe, BKb, HB⟩ := hrel
      (try clear hzgb_0 hfgb_0 hzgb_1 hfgb_1)
      have hzgb_0 := (blk_cell BKb.out 0).trans rfl
      have hfgb_0 := blk_frozen BKb.out 0
      have hzgb_1 := (blk_cell BKb.out 1).trans rfl
      have hfgb_1 := blk_frozen BKb.out 1
      by_cases hx : x < a0_0
      · have k1 : decide (x < a0_0) = true := decide_eq_true hx
        have hxx : 0 ≤ x ∧ x < 8 := by have := HN.out; have := HK.out; omega
        have HX := Aside0.mk hxx
        have HXN := Aside0.mk hx
        obtain ⟨ex, hex⟩ : ∃ z, rd e x = z := ⟨_, rfl⟩
        have HEX := Aside0.mk hex
        have HE8 := Aside0.mk (show 0 ≤ ex ∧ ex ≤ 7 by rw [← hex]; exact HEI.out.at_ hxx.1 hxx.2)
        obtain ⟨hze, _⟩ := ar_rd (0 : Int) ARe.out x 8 HPL.out hxx.1 hxx.2
        have hze2 : wr.cell? ⟨ge, x.toNat, none⟩ = some (.int .u8 ex) := by rw [← hex]; exact hze
        obtain ⟨hzp, hfp⟩ := ar_rd (0 : Int) ARp.out x 16 (plt.pr_length _ _ _) hxx.1 (by omega)
        have p1 := eq_true hxx.1
        have q1 := eq_true hxx.2
        have q2 := eq_true (show x < 16 by omega)
        have d1 : decide (0 ≤ x) = true := decide_eq_true hxx.1
        clear hx hxx hex hze
        have HWN := Aside0.mk (show a0_0 % 256 = a0_0 by have := HN.out; omega)
        have hwn : a0_0 % 256 = a0_0 := HWN.out
        have HWS := Aside0.mk (show (a0_0 + ex) % 256 = a0_0 + ex by have := HN.out; have := HE8.out; omega)
        have hws : (a0_0 + ex) % 256 = a0_0 + ex := HWS.out
        go_wp2
        have n_ := Aside0.mk (ar_drew ARe.out); clear ARe; have ARe := n_; clear n_
        have n_ := Aside0.mk (ar_drew ARp.out); clear ARp; have ARp := n_; clear n_
        have n_ := Aside0.mk (blk_drew BKb.out); clear BKb; have BKb := n_; clear n_
        have n_ := Aside0.mk (below_drew1 HB.out); clear HB; have HB := n_; clear n_
        have hzgb_0 := plcell hzgb_0
        have hze2 := plcell hze2
        have hzp := plcell hzp
        have hfp := plfroz hfp
        refine start_ (n := 10) (S := fun w' => w'.cell? ⟨gb, 0, none⟩ = some (.int .i64 a0_0) ∧ w'.cell? ⟨ge, x.toNat, none⟩ = some (.int .u8 ex)) (ds := [9]) #[false, false, false, false, false, false, false, false, false, false] (by kernel_rfl) rfl rfl ⟨hzgb_0, hze2⟩ (fun hHeld => ?_)
        refine with_tabW plq.tab9 plq.bits9 (fun HT_ HW_ => ?_)
        generalize wr.drew = w8 at ARe ARp BKb HB hzgb_0 hze2 hzp hfp hHeld ⊢
        refine pure_ (i := 0) (N := some 33) (v := ?_) (a' := ?_) #[true, false, false, false, false, false, false, false, false, false] rfl rfl (any_of HT_.out (by kernel_rfl)) (fun _ _ _ h => h) (Or.inl ⟨by rfl, ?_⟩) ?_ ?_
        rotate_left
        · intro w'
          go_simp
          with_reducible rfl
        rotate_left
        · simp only [Act.put, List.setIfInBounds_toArray, List.set_cons_zero, List.set_cons_succ, i64_w, i32_w]
          rfl
        refine pure_ (i := 1) (N := some 34) (v := ?_) (a' := ?_) #[true, true, false, false, false, false, false, false, false, false] rfl rfl (any_of HT_.out (by kernel_rfl)) (fun _ _ _ h => h) (Or.inl ⟨by rfl, ?_⟩) ?_ ?_
        rotate_left
        · intro w'
          go_simp
          with_reducible rfl
        rotate_left
        · simp only [Act.put, List.setIfInBounds_toArray, List.set_cons_zero, List.set_cons_succ, i64_w, i32_w]
          rfl
        refine pure_ (i := 4) (N := some 37) (v := ?_) (a' := ?_) #[true, true, false, false, true, false, false, false, false, false] rfl rfl (any_of HT_.out (by kernel_rfl)) (fun _ _ _ h => h) (Or.inl ⟨by rfl, ?_⟩) ?_ ?_
        rotate_left
        · intro w'
          go_simp
          with_reducible rfl
        rotate_left
        · simp only [Act.put, List.setIfInBounds_toArray, List.set_cons_zero, List.set_cons_succ, i64_w, i32_w]
          rfl
        refine pure_ (i := 5) (N := some 38) (v := ?_) (a' := ?_) #[true, true, false, false, true, true, false, false, false, false] rfl rfl (any_of HT_.out (by kernel_rfl)) (fun _ _ _ h => h) (Or.inl ⟨by rfl, ?_⟩) ?_ ?_
        rotate_left
        · intro w'
          go_simp
          with_reducible rfl
        rotate_left
        · simp only [Act.put, List.setIfInBounds_toArray, List.set_cons_zero, List.set_cons_succ, i64_w, i32_w]
          rfl
        refine take_ (i := 2) (N := some 35) (v := ?_) (a' := ?_) #[true, true, true, false, true, true, false, false, false, false] rfl rfl (take_ofW HT_.out HW_.out (by kernel_rfl)) (fun _ _ _ h => h) (Or.inl ⟨by rfl, ?_⟩) hHeld ?_ ?_
        rotate_left
        · rintro w' ⟨s0, s1⟩
          go_simp
          with_reducible rfl
        rotate_left
        · simp only [Act.put, List.setIfInBounds_toArray, List.set_cons_zero, List.set_cons_succ, i64_w, i32_w]
          rfl
        refine pure_ (i := 3) (N := some 36) (v := ?_) (a' := ?_) #[true, true, true, true, true, true, false, false, false, false] rfl rfl (any_of HT_.out (by kernel_rfl)) (fun _ _ _ h => h) (Or.inl ⟨by rfl, ?_⟩) ?_ ?_
        rotate_left
        · intro w'
          go_simp
          with_reducible rfl
        rotate_left
        · simp only [Act.put, List.setIfInBounds_toArray, List.set_cons_zero, List.set_cons_succ, i64_w, i32_w]
          rfl
        refine take_ (i := 6) (N := some 39) (v := ?_) (a' := ?_) #[true, true, true, true, true, true, true, false, false, false] rfl rfl (take_ofW HT_.out HW_.out (by kernel_rfl)) (fun _ _ _ h => h) (Or.inl ⟨by rfl, ?_⟩) hHeld ?_ ?_
        rotate_left
        · rintro w' ⟨s0, s1⟩
          go_simp
          with_reducible rfl
        rotate_left
        · simp only [Act.put, List.setIfInBounds_toArray, List.set_cons_zero, List.set_cons_succ, i64_w, i32_w]
          rfl
        refine pure_ (i := 7) (N := some 40) (v := ?_) (a' := ?_) #[true, true, true, true, true, true, true, true, false, false] rfl rfl (any_of HT_.out (by kernel_rfl)) (fun _ _ _ h => h) (Or.inl ⟨by rfl, ?_⟩) ?_ ?_
        rotate_left
        · intro w'
          go_simp
          with_reducible rfl
        rotate_left
        · simp only [Act.put, List.setIfInBounds_toArray, List.set_cons_zero, List.set_cons_succ, i64_w, i32_w]
          rfl
        refine pure_ (i := 8) (N := some 41) (v := ?_) (a' := ?_) #[true, true, true, true, true, true, true, true, true, false] rfl rfl (any_of HT_.out (by kernel_rfl)) (fun _ _ _ h => h) (Or.inl ⟨by rfl, ?_⟩) ?_ ?_
        rotate_left
        · intro w'
          go_simp
          with_reducible rfl
        rotate_left
        · simp only [Act.put, List.setIfInBounds_toArray, List.set_cons_zero, List.set_cons_succ, i64_w, i32_w]
          rfl
        refine last_ (i := 9) (N := none) #[true, true, true, true, true, true, true, true, true, true] rfl rfl (one_of HT_.out (by kernel_rfl)) (by decide) (fun K hK => ?_)
        refine skip_ (w1 := ?_) (by rfl) rfl ?_ ?_
        rotate_left
        · first | (go_simp; done) | (go_simp; rfl)
        refine hK.out _ _ ?_
        clear hK K
        refine done_ (done_of HT_.out (by kernel_rfl)) ?_
        have hk : Kept w8 (World.setCell w8 ⟨gp, x.toNat, none⟩ (.int .u8 (IntKind.u8.wrap (IntKind.u8.wrap a0_0 + ex)))) (fun k_ => k_ = gp) := (Kept.setCell (S := fun k_ => k_ = gp) (Kept.refl _ _) (p := ⟨gp, _, none⟩) (Or.inl rfl) _)
        have n_ := Aside0.mk (ar_put ARp.out x.toNat (IntKind.u8.wrap (IntKind.u8.wrap a0_0 + ex)) rfl); clear ARp; have ARp := n_; clear n_
        have n_ := Aside0.mk (blk_kept (by (with_reducible repeat (first | refine blk_drewN ?_ _ | refine blk_drew ?_ | refine blk_alloc ?_ _)); exact BKb.out) hk (fun hs_ => NE_gb_gp.out hs_)); clear BKb; have BKb := n_; clear n_
        have n_ := Aside0.mk (ar_kept (by (with_reducible repeat (first | refine ar_alloc ?_ _ | refine ar_drewN ?_ _ | refine ar_drew ?_)); exact ARe.out) hk (fun hs_ => NE_ge_gp.out hs_)); clear ARe; have ARe := n_; clear n_
        have hB_ : Below w.heap.size w (World.setCell w8 ⟨gp, x.toNat, none⟩ (.int .u8 (IntKind.u8.wrap (IntKind.u8.wrap a0_0 + ex)))) := below_set HB.out GE_gp.out
        clear HB hk hzgb_0 hzgb_1 hfgb_0 hfgb_1 hze2 hzp hfp hHeld HT_ HW_
        have HB := Aside0.mk hB_
        clear hB_
        generalize (World.setCell w8 ⟨gp, x.toNat, none⟩ (.int .u8 (IntKind.u8.wrap (IntKind.u8.wrap a0_0 + ex)))) = w9 at ARp ARe BKb HB ⊢
        (try clear hzgb_0 hfgb_0 hzgb_1 hfgb_1)
        have hzgb_0 := (blk_cell BKb.out 0).trans rfl
        have hfgb_0 := blk_frozen BKb.out 0
        have hzgb_1 := (blk_cell BKb.out 1).trans rfl
        have hfgb_1 := blk_frozen BKb.out 1
        have HVV := Aside0.mk (show IntKind.u8.wrap (IntKind.u8.wrap a0_0 + ex) = a0_0 + ex by rw [plt.u8 (x := a0_0) (by have := HN.out; omega), plt.u8 (x := a0_0 + ex) (by have := HN.out; have := HE8.out; omega)])
        obtain ⟨y, hy⟩ : ∃ y, a0_0 + ex = y := ⟨_, rfl⟩
        have HY := Aside0.mk hy
        have ARp2 := Aside0.mk (show Ar (Value.int .u8) 36 w9 gp ((plt.pr a0_0 e x.toNat).set x.toNat y) by have h_ := ARp.out; rw [HVV.out, hy] at h_; exact h_)
        clear ARp hy
        have ARp := ARp2
        clear ARp2
        obtain ⟨hz1_, _⟩ := ar_rd (0 : Int) ARp.out x 16 (by rw [List.length_set]; exact plt.pr_length _ _ _) HX.out.1 (by have := HX.out; omega)
        have hz1 : w9.cell? ⟨gp, x.toNat, none⟩ = some (.int .u8 y) := by rw [hz1_, List.getD_eq_getElem?_getD, List.getElem?_set_self (by rw [plt.pr_length]; have := HX.out; omega)]; rfl
        have hyr : 0 ≤ y ∧ y < 16 := by have h1_ := HY.out; have h2_ := HN.out; have h3_ := HE8.out; omega
        obtain ⟨hz2, hf2⟩ := ar_rd (0 : Int) ARp.out y 16 (by rw [List.length_set]; exact plt.pr_length _ _ _) hyr.1 hyr.2
        have p2 := eq_true hyr.1
        have q3 := eq_true hyr.2
        have d3 : decide (0 ≤ y) = true := decide_eq_true hyr.1
        have d4 : decide (y < 16) = true := decide_eq_true hyr.2
        clear hyr hz1_ hwn hws
        go_wp2_with (first | ((with_reducible refine gate_store (t := 5) (p := 47) rfl ?_); refine store_event (t := 5) (p := 47) (v := ?vo_w10) (w1 := (World.setCell w9 ⟨gp, (y : Int).toNat, none⟩ ((Value.int .u8) (x % 256)))) ?hg ?ho ?hn ?hr ?_; (case ho => rfl); (case hg => rfl); (case hn => rfl); (case hr => first | (go_simp; done) | (go_simp; rfl)); intro w10 hw; have hk : Kept w9 w10 (fun k_ => k_ = gp) := (by rw [hw]; exact (Kept.setCell (S := fun k_ => k_ = gp) (Kept.refl _ _) (p := ⟨gp, _, none⟩) (Or.inl rfl) _)); have hB_ : Below w.heap.size w w10 := (by rw [hw]; exact below_set HB.out GE_gp.out); have n_ := Aside0.mk (ar_put ARp.out (y : Int).toNat (x % 256) hw); clear ARp; have ARp := n_; clear n_; have n_ := Aside0.mk (blk_kept (by (with_reducible repeat (first | refine blk_drewN ?_ _ | refine blk_drew ?_ | refine blk_alloc ?_ _)); exact BKb.out) hk (fun hs_ => NE_gb_gp.out hs_)); clear BKb; have BKb := n_; clear n_; have n_ := Aside0.mk (ar_kept (by (with_reducible repeat (first | refine ar_alloc ?_ _ | refine ar_drewN ?_ _ | refine ar_drew ?_)); exact ARe.out) hk (fun hs_ => NE_ge_gp.out hs_)); clear ARe; have ARe := n_; clear n_; clear HB; have HB := Aside0.mk hB_; clear hk hB_ hw; (try clear hzgb_0 hfgb_0 hzgb_1 hfgb_1); have hzgb_0 := (blk_cell BKb.out 0).trans rfl; have hfgb_0 := blk_frozen BKb.out 0; have hzgb_1 := (blk_cell BKb.out 1).trans rfl; have hfgb_1 := blk_frozen BKb.out 1))
        go_roundg (a0_0.toNat - (x.toNat + 1))
        case measure => have h1_ := HK.out; have h2_ := HXN.out; omega
        case rel =>
          have HW := Aside0.mk (show wrap64 (x + 1) = x + 1 by have := HX.out; unfold wrap64; omega)
          exact ⟨wrap64 (x + 1), (by first | rfl | (simp; done) | (simp [*]; done)), ⟨by have h1_ := HK.out; have h2_ := HXN.out; rw [HW.out]; omega⟩, ⟨by have h1 := ARp.out; rw [show x % 256 = x by have h2_ := HX.out; omega] at h1; rw [HW.out, show (x + 1).toNat = x.toNat + 1 by have h2_ := HX.out; omega, plt.pr, show ((x.toNat : Nat) : Int) = x by have h2_ := HX.out; omega, HEX.out, HY.out]; exact h1⟩, ARe, BKb, HB⟩
      · have k1 : decide (x < a0_0) = false := decide_eq_false hx
        have ex_ : x.toNat = a0_0.toNat := by have h1_ := HK.out; have h2_ := HN.out; omega
        have h1 := ARp.out
        rw [ex_] at h1
        clear ARp hx
        have ARp := Aside0.mk h1
        clear h1 ex_ HK
        obtain ⟨PR, hpr⟩ : ∃ z, plt.pr a0_0 e a0_0.toNat = z := ⟨_, rfl⟩
        obtain ⟨OU, hou⟩ : ∃ z, plt.ouf (2 * a0_0).toNat = z := ⟨_, rfl⟩
        have HOU := Aside0.mk hou
        rw [hpr] at ARp HF HI
        rw [hou] at HF HI
        clear hpr hou
        have HW2 := Aside0.mk (show wrap64 (2 * a0_0) = 2 * a0_0 by have := HN.out; unfold wrap64; omega)
        have hw2 : wrap64 (2 * a0_0) = 2 * a0_0 := HW2.out
        go_wp2_with (first | ((with_reducible refine gate_callee (f := 12) rfl ?_); refine goesL_ (some 50) rfl rfl Try.func12 (by kernel_rfl) rfl #[.int .i64 a0_0] rfl (by (try simp only [List.map_toArray, List.map_cons, List.map_nil]); first | done | rfl) ?_; (refine (out_calls a0_0 (by have h_ := HN.out; omega) _).mono ?_); rintro e_ wc ⟨rfl, hb⟩; rw [HOU.out]; refine ⟨_, rfl, ?_⟩; have n_ := Aside0.mk (blk_below (by (with_reducible repeat (first | refine blk_drewN ?_ _ | refine blk_drew ?_ | refine blk_alloc ?_ _)); exact BKb.out) hb); clear BKb; have BKb := n_; clear n_; have n_ := Aside0.mk (ar_below (by (with_reducible repeat (first | refine ar_alloc ?_ _ | refine ar_drewN ?_ _ | refine ar_drew ?_)); exact ARe.out) hb); clear ARe; have ARe := n_; clear n_; have n_ := Aside0.mk (ar_below (by (with_reducible repeat (first | refine ar_alloc ?_ _ | refine ar_drewN ?_ _ | refine ar_drew ?_)); exact ARp.out) hb); clear ARp; have ARp := n_; clear n_; have n_ := Aside0.mk (below_step (by repeat (first | (with_reducible first | exact HB.out | apply below_alloc | apply pw_below_drewN | apply below_drew1) | exact HB.out)) hb); clear HB; have HB := n_; clear n_; (try clear hzgb_0 hfgb_0 hzgb_1 hfgb_1); have hzgb_0 := (blk_cell BKb.out 0).trans rfl; have hfgb_0 := blk_frozen BKb.out 0; have hzgb_1 := (blk_cell BKb.out 1).trans rfl; have hfgb_1 := blk_frozen BKb.out 1; clear hb) | ((with_reducible refine gate_dst (N := 7) rfl ?_); refine box_event ?hg (N := 7) ?hd (cs := #[.int .u8 0, .int .u8 0, .int .u8 0, .int .u8 0, .int .u8 0, .int .u8 0, .int .u8 0, .int .u8 0, .int .u8 0, .int .u8 0, .int .u8 0, .int .u8 0, .int .u8 0, .int .u8 0, .int .u8 0, .int .u8 0]) (t := 36) ?hr ?_; (case hd => rfl); (case hg => rfl); (case hr => first | (go_simp; done) | (go_simp; rfl)); intro go hg w11 hbox hb; have GE_go : Aside0 (w.heap.size ≤ go) := ⟨by rw [hg]; exact below_size (by repeat (first | (with_reducible first | exact HB.out | apply below_alloc | apply pw_below_drewN | apply below_drew1) | exact HB.out))⟩; have NE_gb_go : Aside0 (gb ≠ go) := ⟨by have h_ := blk_lt (by (with_reducible repeat (first | refine blk_drewN ?_ _ | refine blk_drew ?_ | refine blk_alloc ?_ _)); exact BKb.out); have h2_ : go = _ := hg; intro h3_; rw [h3_, h2_] at h_; exact Nat.lt_irrefl _ h_⟩; have NE_ge_go : Aside0 (ge ≠ go) := ⟨by have h_ := blk_lt (by (with_reducible repeat (first | refine ar_alloc ?_ _ | refine ar_drewN ?_ _ | refine ar_drew ?_)); exact ARe.out); have h2_ : go = _ := hg; intro h3_; rw [h3_, h2_] at h_; exact Nat.lt_irrefl _ h_⟩; have NE_gp_go : Aside0 (gp ≠ go) := ⟨by have h_ := blk_lt (by (with_reducible repeat (first | refine ar_alloc ?_ _ | refine ar_drewN ?_ _ | refine ar_drew ?_)); exact ARp.out); have h2_ : go = _ := hg; intro h3_; rw [h3_, h2_] at h_; exact Nat.lt_irrefl _ h_⟩; have n_ := Aside0.mk (blk_below (by (with_reducible repeat (first | refine blk_drewN ?_ _ | refine blk_drew ?_ | refine blk_alloc ?_ _)); exact BKb.out) hb); clear BKb; have BKb := n_; clear n_; have n_ := Aside0.mk (ar_below (by (with_reducible repeat (first | refine ar_alloc ?_ _ | refine ar_drewN ?_ _ | refine ar_drew ?_)); exact ARe.out) hb); clear ARe; have ARe := n_; clear n_; have n_ := Aside0.mk (ar_below (by (with_reducible repeat (first | refine ar_alloc ?_ _ | refine ar_drewN ?_ _ | refine ar_drew ?_)); exact ARp.out) hb); clear ARp; have ARp := n_; clear n_; have n_ := Aside0.mk (below_step (by repeat (first | (with_reducible first | exact HB.out | apply below_alloc | apply pw_below_drewN | apply below_drew1) | exact HB.out)) hb); clear HB; have HB := n_; clear n_; (try clear hzgb_0 hfgb_0 hzgb_1 hfgb_1); have hzgb_0 := (blk_cell BKb.out 0).trans rfl; have hfgb_0 := blk_frozen BKb.out 0; have hzgb_1 := (blk_cell BKb.out 1).trans rfl; have hfgb_1 := blk_frozen BKb.out 1; have ARo : Aside0 (Ar (Value.int .u8) 36 w11 go (List.replicate 16 (0))) := ⟨hbox⟩; clear hbox hb hg) | ((with_reducible refine gate_dst (N := 8) rfl ?_); refine box_event ?hg (N := 8) ?hd (cs := #[.bool false, .bool false, .bool false, .bool false, .bool false, .bool false, .bool false, .bool false, .bool false, .bool false, .bool false, .bool false, .bool false, .bool false, .bool false, .bool false]) (t := 38) ?hr ?_; (case hd => rfl); (case hg => rfl); (case hr => first | (go_simp; done) | (go_simp; rfl)); intro gm hg w12 hbox hb; have GE_gm : Aside0 (w.heap.size ≤ gm) := ⟨by rw [hg]; exact below_size (by repeat (first | (with_reducible first | exact HB.out | apply below_alloc | apply pw_below_drewN | apply below_drew1) | exact HB.out))⟩; have NE_gb_gm : Aside0 (gb ≠ gm) := ⟨by have h_ := blk_lt (by (with_reducible repeat (first | refine blk_drewN ?_ _ | refine blk_drew ?_ | refine blk_alloc ?_ _)); exact BKb.out); have h2_ : gm = _ := hg; intro h3_; rw [h3_, h2_] at h_; exact Nat.lt_irrefl _ h_⟩; have NE_ge_gm : Aside0 (ge ≠ gm) := ⟨by have h_ := blk_lt (by (with_reducible repeat (first | refine ar_alloc ?_ _ | refine ar_drewN ?_ _ | refine ar_drew ?_)); exact ARe.out); have h2_ : gm = _ := hg; intro h3_; rw [h3_, h2_] at h_; exact Nat.lt_irrefl _ h_⟩; have NE_gp_gm : Aside0 (gp ≠ gm) := ⟨by have h_ := blk_lt (by (with_reducible repeat (first | refine ar_alloc ?_ _ | refine ar_drewN ?_ _ | refine ar_drew ?_)); exact ARp.out); have h2_ : gm = _ := hg; intro h3_; rw [h3_, h2_] at h_; exact Nat.lt_irrefl _ h_⟩; have NE_go_gm : Aside0 (go ≠ gm) := ⟨by have h_ := blk_lt (by (with_reducible repeat (first | refine ar_alloc ?_ _ | refine ar_drewN ?_ _ | refine ar_drew ?_)); exact ARo.out); have h2_ : gm = _ := hg; intro h3_; rw [h3_, h2_] at h_; exact Nat.lt_irrefl _ h_⟩; have n_ := Aside0.mk (blk_below (by (with_reducible repeat (first | refine blk_drewN ?_ _ | refine blk_drew ?_ | refine blk_alloc ?_ _)); exact BKb.out) hb); clear BKb; have BKb := n_; clear n_; have n_ := Aside0.mk (ar_below (by (with_reducible repeat (first | refine ar_alloc ?_ _ | refine ar_drewN ?_ _ | refine ar_drew ?_)); exact ARe.out) hb); clear ARe; have ARe := n_; clear n_; have n_ := Aside0.mk (ar_below (by (with_reducible repeat (first | refine ar_alloc ?_ _ | refine ar_drewN ?_ _ | refine ar_drew ?_)); exact ARp.out) hb); clear ARp; have ARp := n_; clear n_; have n_ := Aside0.mk (ar_below (by (with_reducible repeat (first | refine ar_alloc ?_ _ | refine ar_drewN ?_ _ | refine ar_drew ?_)); exact ARo.out) hb); clear ARo; have ARo := n_; clear n_; have n_ := Aside0.mk (below_step (by repeat (first | (with_reducible first | exact HB.out | apply below_alloc | apply pw_below_drewN | apply below_drew1) | exact HB.out)) hb); clear HB; have HB := n_; clear n_; (try clear hzgb_0 hfgb_0 hzgb_1 hfgb_1); have hzgb_0 := (blk_cell BKb.out 0).trans rfl; have hfgb_0 := blk_frozen BKb.out 0; have hzgb_1 := (blk_cell BKb.out 1).trans rfl; have hfgb_1 := blk_frozen BKb.out 1; have ARm : Aside0 (Ar Value.bool 38 w12 gm (List.replicate 16 false)) := ⟨hbox⟩; clear hbox hb hg) | ((with_reducible refine gate_store (t := 36) (p := 7) rfl ?_); refine ar_store (by rfl) 36 _ _ (by rfl) go ((((List.replicate 16 (0))).map (Value.int .u8))) (((OU).map (Value.int .u8))) (by rfl) (by rfl) (by rfl) ARo.out (by simp [HI.out.2.1]) (by rw [List.length_map, HI.out.2.1]; kernel_rfl) (by intro v hv; obtain ⟨x, _, rfl⟩ := List.mem_map.1 hv; rfl) ?_; intro w13 hst hk hB_; have n_ := Aside0.mk (blk_kept (by (with_reducible repeat (first | refine blk_drewN ?_ _ | refine blk_drew ?_ | refine blk_alloc ?_ _)); exact BKb.out) hk (fun hs_ => NE_gb_go.out hs_)); clear BKb; have BKb := n_; clear n_; have n_ := Aside0.mk (ar_kept (by (with_reducible repeat (first | refine ar_alloc ?_ _ | refine ar_drewN ?_ _ | refine ar_drew ?_)); exact ARe.out) hk (fun hs_ => NE_ge_go.out hs_)); clear ARe; have ARe := n_; clear n_; have n_ := Aside0.mk (ar_kept (by (with_reducible repeat (first | refine ar_alloc ?_ _ | refine ar_drewN ?_ _ | refine ar_drew ?_)); exact ARp.out) hk (fun hs_ => NE_gp_go.out hs_)); clear ARp; have ARp := n_; clear n_; have n_ := Aside0.mk (ar_kept (by (with_reducible repeat (first | refine ar_alloc ?_ _ | refine ar_drewN ?_ _ | refine ar_drew ?_)); exact ARm.out) hk (fun hs_ => (Ne.symm NE_go_gm.out) hs_)); clear ARm; have ARm := n_; clear n_; have n_ := Aside0.mk (hB_ _ _ (by repeat (first | (with_reducible first | exact HB.out | apply below_alloc | apply pw_below_drewN | apply below_drew1) | exact HB.out)) GE_go.out); clear HB; have HB := n_; clear n_; clear ARo; have ARo := Aside0.mk hst; clear hst hk hB_; (try clear hzgb_0 hfgb_0 hzgb_1 hfgb_1); have hzgb_0 := (blk_cell BKb.out 0).trans rfl; have hfgb_0 := blk_frozen BKb.out 0; have hzgb_1 := (blk_cell BKb.out 1).trans rfl; have hfgb_1 := blk_frozen BKb.out 1) | ((with_reducible refine gate_store (t := 38) (p := 8) rfl ?_); refine ar_store (by rfl) 38 _ _ (by rfl) gm (((List.replicate 16 false).map Value.bool)) (((List.replicate 16 false).map Value.bool)) (by rfl) (by rfl) (by rfl) ARm.out (by rfl) (by rw [List.length_map, List.length_replicate]; kernel_rfl) (by intro v hv; obtain ⟨x, _, rfl⟩ := List.mem_map.1 hv; rfl) ?_; intro w14 hst hk hB_; have n_ := Aside0.mk (blk_kept (by (with_reducible repeat (first | refine blk_drewN ?_ _ | refine blk_drew ?_ | refine blk_alloc ?_ _)); exact BKb.out) hk (fun hs_ => NE_gb_gm.out hs_)); clear BKb; have BKb := n_; clear n_; have n_ := Aside0.mk (ar_kept (by (with_reducible repeat (first | refine ar_alloc ?_ _ | refine ar_drewN ?_ _ | refine ar_drew ?_)); exact ARe.out) hk (fun hs_ => NE_ge_gm.out hs_)); clear ARe; have ARe := n_; clear n_; have n_ := Aside0.mk (ar_kept (by (with_reducible repeat (first | refine ar_alloc ?_ _ | refine ar_drewN ?_ _ | refine ar_drew ?_)); exact ARp.out) hk (fun hs_ => NE_gp_gm.out hs_)); clear ARp; have ARp := n_; clear n_; have n_ := Aside0.mk (ar_kept (by (with_reducible repeat (first | refine ar_alloc ?_ _ | refine ar_drewN ?_ _ | refine ar_drew ?_)); exact ARo.out) hk (fun hs_ => NE_go_gm.out hs_)); clear ARo; have ARo := n_; clear n_; have n_ := Aside0.mk (hB_ _ _ (by repeat (first | (with_reducible first | exact HB.out | apply below_alloc | apply pw_below_drewN | apply below_drew1) | exact HB.out)) GE_gm.out); clear HB; have HB := n_; clear n_; clear ARm; have ARm := Aside0.mk hst; clear hst hk hB_; (try clear hzgb_0 hfgb_0 hzgb_1 hfgb_1); have hzgb_0 := (blk_cell BKb.out 0).trans rfl; have hfgb_0 := blk_frozen BKb.out 0; have hzgb_1 := (blk_cell BKb.out 1).trans rfl; have hfgb_1 := blk_frozen BKb.out 1))
        have ARm2 := Aside0.mk (show Ar Value.bool 38 w14 gm (List.replicate 16 false) from ARm.out)
        clear ARm
        have ARm := ARm2
        clear ARm2
        go_loopg [9, 10] k (fun kq v9 v10 wr => ∃ (met : List Bool) (x c_ : Int), v9 = .int .i64 c_ ∧ v10 = .int .i64 x ∧ Aside0 (plt.l0 (2 * a0_0) PR OU kq met x c_ = some c) ∧ Aside0 (kq ≤ k) ∧ Aside0 ((0 ≤ x ∧ x ≤ 2 * a0_0) ∧ (0 ≤ c_ ∧ c_ ≤ x)) ∧ Aside0 (met.length = 16) ∧ Aside0 (Ar Value.bool 38 wr gm (met)) ∧ Aside0 (Ar (Value.int .u8) 36 wr gp (PR)) ∧ Aside0 (Ar (Value.int .u8) 34 wr ge (e)) ∧ Aside0 (Ar (Value.int .u8) 36 wr go (OU)) ∧ Aside0 (wr.heap[gb]? = some (.cells #[.int .i64 a0_0, .slice A0_1 l0_1.length c0_1] 28 (0, 0))) ∧ Aside0 (Below w.heap.size w wr))
        case atStart => exact ⟨List.replicate 16 false, 0, 0, (by first | rfl | (simp; done) | (simp [*]; done)), (by first | rfl | (simp; done) | (simp [*]; done)), HF, ⟨Nat.le_refl _⟩, ⟨by have := HN.out; omega⟩, ⟨rfl⟩, ARm, ARp, ARe, ARo, BKb, HB⟩
        case round =>
          clear ARm ARp ARe ARo BKb HB HF hzgb_0 hzgb_1 hfgb_0 hfgb_1
          obtain ⟨met, x, c_, rfl, rfl, HA, HK1, HX, HML, ARm, ARp, ARe, ARo, BKb, HB⟩ := hrel
          (try clear hzgb_0 hfgb_0 hzgb_1 hfgb_1)
          have hzgb_0 := (blk_cell BKb.out 0).trans rfl
          have hfgb_0 := blk_frozen BKb.out 0
          have hzgb_1 := (blk_cell BKb.out 1).trans rfl
          have hfgb_1 := blk_frozen BKb.out 1
          cases gk with
          | zero => exact absurd HA.out (by simp [plt.l0])
          | succ k1 =>
            have H := HA.out
            clear HA
            simp only [plt.l0] at H
            by_cases c1_ : x < 2 * a0_0
            · rw [if_pos c1_] at H
              have c1b : decide (x < 2 * a0_0) = true := decide_eq_true c1_
              have hxx : 0 ≤ x ∧ x < 16 := by have := HX.out; have := HN.out; omega
              have HX16 := Aside0.mk hxx
              have HXN := Aside0.mk c1_
              obtain ⟨hz, hzf⟩ := ar_rd false ARm.out x 16 HML.out hxx.1 hxx.2
              obtain ⟨mb, hmb⟩ : ∃ z, met.getD x.toNat false = z := ⟨_, rfl⟩
              rw [hmb] at hz H
              have HMB := Aside0.mk hmb
              have p1 := eq_true hxx.1
              have q1 := eq_true hxx.2
              have d1 : decide (0 ≤ x) = true := decide_eq_true hxx.1
              have d2 : decide (x < 16) = true := decide_eq_true hxx.2
              clear hxx c1_ hmb
              cases mb with
              | true =>
                simp only [if_true] at H
                have H' := Aside0.mk H
                clear H
                go_wp2
                go_roundg k1
                case measure => have h1_ := HK1.out; omega
                case rel =>
                  have HW := Aside0.mk (show wrap64 (x + 1) = x + 1 by have := HX16.out; unfold wrap64; omega)
                  exact ⟨met, wrap64 (x + 1), c_, (by first | rfl | (simp; done) | (simp [*]; done)), (by first | rfl | (simp; done) | (simp [*]; done)), ⟨by rw [HW.out]; exact H'.out⟩, ⟨by have h1_ := HK1.out; omega⟩, ⟨by have h1_ := HX.out; have h2_ := HXN.out; rw [HW.out]; omega⟩, HML, ARm, ARp, ARe, ARo, BKb, HB⟩
              | false =>
                simp only [Bool.false_eq_true, if_false] at H
                have H' := Aside0.mk H
                clear H
                have HWC := Aside0.mk (show wrap64 (c_ + 1) = c_ + 1 by have h1_ := HX.out; have h2_ := HN.out; unfold wrap64; omega)
                go_wp2
                clear hz hzf p1 q1 d1 d2
                go_loopg [11] k1 (fun kq v11 wr => ∃ (met : List Bool) (y : Int), v11 = .int .i64 y ∧ Aside0 (plt.l1 (2 * a0_0) PR OU kq met x (c_ + 1) y = some c) ∧ Aside0 (kq ≤ k1) ∧ Aside0 (0 ≤ y ∧ y < 16) ∧ Aside0 (met.length = 16) ∧ Aside0 (Ar Value.bool 38 wr gm (met)) ∧ Aside0 (Ar (Value.int .u8) 36 wr gp (PR)) ∧ Aside0 (Ar (Value.int .u8) 34 wr ge (e)) ∧ Aside0 (Ar (Value.int .u8) 36 wr go (OU)) ∧ Aside0 (wr.heap[gb]? = some (.cells #[.int .i64 a0_0, .slice A0_1 l0_1.length c0_1] 28 (0, 0))) ∧ Aside0 (Below w.heap.size w wr))
                case atStart => exact ⟨met, x, (by first | rfl | (simp; done) | (simp [*]; done)), H', ⟨Nat.le_refl _⟩, HX16, HML, ARm, ARp, ARe, ARo, BKb, HB⟩
                case round =>
                  clear ARm ARp ARe ARo BKb HB H' HML HMB hzgb_0 hzgb_1 hfgb_0 hfgb_1
                  obtain ⟨met, y, rfl, HA, HK2, HY, HML, ARm, ARp, ARe, ARo, BKb, HB⟩ := hrel
                  (try clear hzgb_0 hfgb_0 hzgb_1 hfgb_1)
                  have hzgb_0 := (blk_cell BKb.out 0).trans rfl
                  have hfgb_0 := blk_frozen BKb.out 0
                  have hzgb_1 := (blk_cell BKb.out 1).trans rfl
                  have hfgb_1 := blk_frozen BKb.out 1
                  cases gk with
                  | zero => exact absurd HA.out (by simp [plt.l1])
                  | succ k2 =>
                    have H := HA.out
                    clear HA
                    simp only [plt.l1] at H
                    obtain ⟨hz, hzf⟩ := ar_rd false ARm.out y 16 HML.out HY.out.1 HY.out.2
                    obtain ⟨mb, hmb⟩ : ∃ z, met.getD y.toNat false = z := ⟨_, rfl⟩
                    rw [hmb] at hz H
                    clear hmb
                    have p1 := eq_true HY.out.1
                    have q1 := eq_true HY.out.2
                    have d1 : decide (0 ≤ y) = true := decide_eq_true HY.out.1
                    have d2 : decide (y < 16) = true := decide_eq_true HY.out.2
                    cases mb with
                    | true =>
                      simp only [if_true] at H
                      have H' := Aside0.mk H
                      clear H
                      go_wp2
                      go_roundg k1
                      case measure => have h1_ := HK1.out; have h2_ := HK2.out; omega
                      case rel =>
                        have HW := Aside0.mk (show wrap64 (x + 1) = x + 1 by have := HX16.out; unfold wrap64; omega)
                        exact ⟨met, wrap64 (x + 1), wrap64 (c_ + 1), (by first | rfl | (simp; done) | (simp [*]; done)), (by first | rfl | (simp; done) | (simp [*]; done)), ⟨by rw [HW.out, HWC.out]; exact plt.l0_le HK2.out H'.out⟩, ⟨by have h1_ := HK1.out; omega⟩, ⟨by have h1_ := HX.out; have h2_ := HXN.out; rw [HW.out, HWC.out]; omega⟩, HML, ARm, ARp, ARe, ARo, BKb, HB⟩
                    | false =>
                      simp only [Bool.false_eq_true, if_false] at H
                      have H' := Aside0.mk H
                      clear H
                      have hpy := HI.out.1.2 y HY.out
                      obtain ⟨py, hpy_⟩ : ∃ z, rd PR y = z := ⟨_, rfl⟩
                      obtain ⟨hzp_, _⟩ := ar_rd (0 : Int) ARp.out y 16 HI.out.1.1 HY.out.1 HY.out.2
                      have hzp : wr.cell? ⟨gp, y.toNat, none⟩ = some (.int .u8 py) := by rw [← hpy_]; exact hzp_
                      rw [hpy_] at hpy H'
                      have HPY := Aside0.mk hpy
                      have HPE := Aside0.mk hpy_
                      have hoy := HI.out.2.2 py hpy
                      obtain ⟨oy, hoy_⟩ : ∃ z, rd OU py = z := ⟨_, rfl⟩
                      obtain ⟨hzo_, _⟩ := ar_rd (0 : Int) ARo.out py 16 HI.out.2.1 hpy.1 hpy.2
                      have hzo : wr.cell? ⟨go, py.toNat, none⟩ = some (.int .u8 oy) := by rw [← hoy_]; exact hzo_
                      rw [hoy_] at hoy H'
                      have HOY := Aside0.mk hoy
                      have HOE := Aside0.mk hoy_
                      have HZP := Aside0.mk hzp
                      have HZO := Aside0.mk hzo
                      have p2 := eq_true hpy.1
                      have q2 := eq_true hpy.2
                      have d3 : decide (0 ≤ py) = true := decide_eq_true hpy.1
                      have d4 : decide (py < 16) = true := decide_eq_true hpy.2
                      have how : IntKind.i64.wrap oy = oy := (i64_w _).trans (by unfold wrap64; omega)
                      have how2 : wrap64 oy = oy := by unfold wrap64; omega
                      clear hpy hoy hpy_ hoy_ hzp_ hzo_
                      go_wp2_with (first | ((with_reducible refine gate_store (t := 4) (p := 76) rfl ?_); refine store_event (t := 4) (p := 76) (v := ?vo_w20) (w1 := (World.setCell wr ⟨gm, (y : Int).toNat, none⟩ (Value.bool (true)))) ?hg ?ho ?hn ?hr ?_; (case ho => rfl); (case hg => rfl); (case hn => rfl); (case hr => first | (go_simp; done) | (go_simp; rfl)); intro w20 hw; have hk : Kept wr w20 (fun k_ => k_ = gm) := (by rw [hw]; exact (Kept.setCell (S := fun k_ => k_ = gm) (Kept.refl _ _) (p := ⟨gm, _, none⟩) (Or.inl rfl) _)); have hB_ : Below w.heap.size w w20 := (by rw [hw]; exact below_set HB.out GE_gm.out); have n_ := Aside0.mk (ar_put ARm.out (y : Int).toNat (true) hw); clear ARm; have ARm := n_; clear n_; have n_ := Aside0.mk (blk_kept (by (with_reducible repeat (first | refine blk_drewN ?_ _ | refine blk_drew ?_ | refine blk_alloc ?_ _)); exact BKb.out) hk (fun hs_ => NE_gb_gm.out hs_)); clear BKb; have BKb := n_; clear n_; have n_ := Aside0.mk (ar_kept (by (with_reducible repeat (first | refine ar_alloc ?_ _ | refine ar_drewN ?_ _ | refine ar_drew ?_)); exact ARe.out) hk (fun hs_ => NE_ge_gm.out hs_)); clear ARe; have ARe := n_; clear n_; have n_ := Aside0.mk (ar_kept (by (with_reducible repeat (first | refine ar_alloc ?_ _ | refine ar_drewN ?_ _ | refine ar_drew ?_)); exact ARp.out) hk (fun hs_ => NE_gp_gm.out hs_)); clear ARp; have ARp := n_; clear n_; have n_ := Aside0.mk (ar_kept (by (with_reducible repeat (first | refine ar_alloc ?_ _ | refine ar_drewN ?_ _ | refine ar_drew ?_)); exact ARo.out) hk (fun hs_ => NE_go_gm.out hs_)); clear ARo; have ARo := n_; clear n_; clear HB; have HB := Aside0.mk hB_; clear hk hB_ hw; (try clear hzgb_0 hfgb_0 hzgb_1 hfgb_1); have hzgb_0 := (blk_cell BKb.out 0).trans rfl; have hfgb_0 := blk_frozen BKb.out 0; have hzgb_1 := (blk_cell BKb.out 1).trans rfl; have hfgb_1 := blk_frozen BKb.out 1; clear hzp hzo; obtain ⟨hzp_, _⟩ := ar_rd (0 : Int) ARp.out y 16 HI.out.1.1 HY.out.1 HY.out.2; have hzp : w20.cell? ⟨gp, y.toNat, none⟩ = some (.int .u8 py) := (by rw [← HPE.out]; exact hzp_); clear hzp_; obtain ⟨hz2, hf2⟩ := ar_rd false ARm.out py 16 (by rw [List.length_set]; exact HML.out) HPY.out.1 HPY.out.2) | ((with_reducible refine gate_store (t := 4) (p := 80) rfl ?_); refine store_event (t := 4) (p := 80) (v := ?vo_w21) (w1 := (World.setCell w20 ⟨gm, (py : Int).toNat, none⟩ (Value.bool (true)))) ?hg ?ho ?hn ?hr ?_; (case ho => rfl); (case hg => rfl); (case hn => rfl); (case hr => first | (go_simp; done) | (go_simp; rfl)); intro w21 hw; have hk : Kept w20 w21 (fun k_ => k_ = gm) := (by rw [hw]; exact (Kept.setCell (S := fun k_ => k_ = gm) (Kept.refl _ _) (p := ⟨gm, _, none⟩) (Or.inl rfl) _)); have hB_ : Below w.heap.size w w21 := (by rw [hw]; exact below_set HB.out GE_gm.out); have n_ := Aside0.mk (ar_put ARm.out (py : Int).toNat (true) hw); clear ARm; have ARm := n_; clear n_; have n_ := Aside0.mk (blk_kept (by (with_reducible repeat (first | refine blk_drewN ?_ _ | refine blk_drew ?_ | refine blk_alloc ?_ _)); exact BKb.out) hk (fun hs_ => NE_gb_gm.out hs_)); clear BKb; have BKb := n_; clear n_; have n_ := Aside0.mk (ar_kept (by (with_reducible repeat (first | refine ar_alloc ?_ _ | refine ar_drewN ?_ _ | refine ar_drew ?_)); exact ARe.out) hk (fun hs_ => NE_ge_gm.out hs_)); clear ARe; have ARe := n_; clear n_; have n_ := Aside0.mk (ar_kept (by (with_reducible repeat (first | refine ar_alloc ?_ _ | refine ar_drewN ?_ _ | refine ar_drew ?_)); exact ARp.out) hk (fun hs_ => NE_gp_gm.out hs_)); clear ARp; have ARp := n_; clear n_; have n_ := Aside0.mk (ar_kept (by (with_reducible repeat (first | refine ar_alloc ?_ _ | refine ar_drewN ?_ _ | refine ar_drew ?_)); exact ARo.out) hk (fun hs_ => NE_go_gm.out hs_)); clear ARo; have ARo := n_; clear n_; clear HB; have HB := Aside0.mk hB_; clear hk hB_ hw; (try clear hzgb_0 hfgb_0 hzgb_1 hfgb_1); have hzgb_0 := (blk_cell BKb.out 0).trans rfl; have hfgb_0 := blk_frozen BKb.out 0; have hzgb_1 := (blk_cell BKb.out 1).trans rfl; have hfgb_1 := blk_frozen BKb.out 1; clear hzp; have hzp : w21.cell? ⟨gp, y.toNat, none⟩ = some (.int .u8 py) := (by rw [← HPE.out]; exact (ar_rd (0 : Int) ARp.out y 16 HI.out.1.1 HY.out.1 HY.out.2).1); have hzo : w21.cell? ⟨go, py.toNat, none⟩ = some (.int .u8 oy) := (by rw [← HOE.out]; exact (ar_rd (0 : Int) ARo.out py 16 HI.out.2.1 HPY.out.1 HPY.out.2).1)))
                      go_roundg k2
                      case measure => have h1_ := HK1.out; have h2_ := HK2.out; omega
                      case rel => exact ⟨(met.set y.toNat true).set py.toNat true, oy, (by first | rfl | (simp; done) | (simp [*]; done)), H', ⟨by have h1_ := HK2.out; omega⟩, HOY, ⟨by rw [List.length_set, List.length_set]; exact HML.out⟩, ARm, ARp, ARe, ARo, BKb, HB⟩
            · rw [if_neg c1_, Option.some.injEq] at H
              have c1b : decide (x < 2 * a0_0) = false := decide_eq_false c1_
              clear c1_
              subst H
              go_wp2
              go_ret2
              exact ⟨rfl, (by repeat (first | (with_reducible first | exact HB.out | apply below_alloc | apply pw_below_drewN | apply below_drew1) | exact HB.out))⟩


/-! ### laws_toInt64S: function 13 -/
def laws_toInt64S.l0 : Nat → List Int → List Int → Int → Option (List Int)
  | 0, _, _, _ => none
  | k + 1, x0, x3, x4 => if x4 < (x0.length : Int) then (if 0 ≤ x4 then (if x4 < (x3.length : Int) then (laws_toInt64S.l0 k x0 (x3.set (x4 : Int).toNat (rd x0 x4)) (wrap64 (x4 + 1))) else (none)) else (none)) else (some x3)
def laws_toInt64S.f (k : Nat) (l0 : List Int) : Option (List Int) := if 0 ≤ (l0.length : Int) then (if ((l0.length : Int) : Int).toNat ≤ 35184372088832 then (laws_toInt64S.l0 k l0 (List.replicate ((l0.length : Int) : Int).toNat 0) 0) else (none)) else (none)
theorem laws_toInt64S.mono_l : ∀ k, (∀ y0 y1 y2, LeO (laws_toInt64S.l0 k y0 y1 y2) (laws_toInt64S.l0 (k + 1) y0 y1 y2))
  | 0 => fun _ _ _ r h => by simp [laws_toInt64S.l0] at h
  | k + 1 => by
    have ih0 := laws_toInt64S.mono_l k
    · intro y0 y1 y2
      unfold laws_toInt64S.l0
      repeat' first
      | (with_reducible exact ih0 _ _ _)
      | (with_reducible exact LeO.refl _)
      | (with_reducible exact LeO.none _)
      | (with_reducible refine LeO.ite ?_ ?_)
      | (with_reducible refine LeO.bind ?_ (fun _ => ?_))
      | exact ih0 _ _ _
      | exact LeO.none _
      | refine LeO.ite ?_ ?_
      | refine LeO.bind ?_ (fun _ => ?_)
theorem laws_toInt64S.mono : ∀ a0 k, LeO (laws_toInt64S.f k a0) (laws_toInt64S.f (k + 1) a0) := by
  intro a0 k
  have ih0 := laws_toInt64S.mono_l k
  unfold laws_toInt64S.f
  repeat' first
      | (with_reducible exact ih0 _ _ _)
      | (with_reducible exact LeO.refl _)
      | (with_reducible exact LeO.none _)
      | (with_reducible refine LeO.ite ?_ ?_)
      | (with_reducible refine LeO.bind ?_ (fun _ => ?_))
      | exact ih0 _ _ _
      | exact LeO.none _
      | refine LeO.ite ?_ ?_
      | refine LeO.bind ?_ (fun _ => ?_)
set_option maxHeartbeats 8000000 in
set_option maxRecDepth 100000 in
theorem laws_toInt64S.calls (k : Nat) (A0 : Option Addr) (c0 : Nat) (l0 : List Int) (r : List Int) (w : World) (hr0 : Kd.C (Kd.int .i64) w A0 l0.length l0) (hc0 : l0.length ≤ c0) (h : laws_toInt64S.f k l0 = some r) :
    Calls Try.prog 13 #[.slice A0 l0.length c0] w fun e w' => ∃ v0_ : Value, e = .returned (v0_) ∧ Kd.R (Kd.int .i64) 2 w' w.heap.size (fun _ => True) v0_ r ∧ Below w.heap.size w w' := by
  have HR0 := Aside0.mk hr0
  have HC0 := Aside0.mk hc0
  clear hr0 hc0
  have HB := Aside0.mk (Below.refl w.heap.size w)
  have H : (if 0 ≤ (l0.length : Int) then (if ((l0.length : Int) : Int).toNat ≤ 35184372088832 then (laws_toInt64S.l0 k l0 (List.replicate ((l0.length : Int) : Int).toNat 0) 0) else (none)) else (none)) = some r := h
  clear h
  by_cases c2 : 0 ≤ (l0.length : Int)
  · rw [if_pos c2] at H
    have c2b0 := eq_true c2
    have c2b1 : decide (0 ≤ (l0.length : Int)) = true := decide_eq_true c2
    clear c2
    by_cases c3 : ((l0.length : Int) : Int).toNat ≤ 35184372088832
    · rw [if_pos c3] at H
      have c3b0 := eq_true c3
      have c3b1 : decide (((l0.length : Int) : Int).toNat ≤ 35184372088832) = true := decide_eq_true c3
      clear c3
      obtain ⟨y108, hy108⟩ : ∃ y_ : List Int, y_ = (List.replicate ((l0.length : Int) : Int).toNat 0) := ⟨_, rfl⟩
      replace H : (laws_toInt64S.l0 k l0 y108 0) = some r := by first | (rw [hy108]; with_reducible exact H) | (have H2_ := (Option.bind_some _ _).symm.trans H; rw [hy108]; with_reducible exact H2_) | (have H2_ := (Option.bind_some _ _).symm.trans H; with_reducible exact H2_) | with_reducible exact H | (rw [hy108]; exact H) | exact H
      have Ny108 := Aside0.mk hy108
      clear hy108
      have H' := Aside0.mk H
      clear H
      go_enter Try.func13, Try.ntmps13
      go_wp2_with (first | ((with_reducible refine gate_dst (N := 7) rfl ?_); refine Kd.R_make (Kd.int .i64) _ 2 rfl (N := 7) rfl 22 _ _ rfl (l0.length : Int) rfl rfl Try.underlying22 (.int .i64 0) 8 info2 rfl (by decide) (by omega) 0 (ok := fun _ => True) (okp := fun _ => True) rfl (fun _ hk => hk) trivial (of_decide_eq_true (by first | (with_reducible assumption) | assumption)) (Nat.le_trans (Nat.mul_le_mul_right _ (of_decide_eq_true (by first | (with_reducible assumption) | assumption) : (l0.length : Int).toNat ≤ 35184372088832)) (by omega)) (Below.refl _ _) (Nat.le_refl _) ?_; intro v109 w4 ho5 hb hg_ hnew_; clear hg_ hnew_; (first | rw [← Ny108.out] at ho5 | (simp only [Int.reduceToNat] at ho5; rw [← Ny108.out] at ho5)); have n0_ := Aside0.mk (Kd.R_lower ho5 (below_size (by repeat (first | (with_reducible first | exact HB.out | apply below_alloc | apply pw_below_drewN | apply below_drew1) | exact HB.out)))); have n1_ := Aside0.mk (below_step (by repeat (first | (with_reducible first | exact HB.out | apply below_alloc | apply pw_below_drewN | apply below_drew1) | exact HB.out)) hb); clear HB; have HO110 := n0_; have HB := n1_; clear n0_ n1_; clear hb ho5))
      go_loopg [4] k (fun kq v4 w' => ∃ (x3_1 : List Int) (x4_1 : Int), v4 = .int .i64 x4_1 ∧ Aside0 (laws_toInt64S.l0 kq l0 x3_1 x4_1 = some r) ∧ Aside0 (kq ≤ k) ∧ Aside0 (Kd.R (Kd.int .i64) 2 w' w.heap.size (fun _ => True) v109 x3_1) ∧ Aside0 (Below w.heap.size w w'))
      case atStart => exact ⟨(y108), (0), (by first | rfl | (simp; done) | (simp [*]; done)), H', ⟨Nat.le_refl _⟩, ⟨by (with_reducible repeat (first | apply Kd.R_alloc | apply Kd.R_drewN | apply Kd.R_drew)); exact HO110.out⟩, ⟨by repeat (first | (with_reducible first | exact HB.out | apply below_alloc | apply pw_below_drewN | apply below_drew1) | exact HB.out)⟩⟩
      case round =>
        clear H'
        try clear c1
        try clear c2
        try clear c2b0
        try clear c2b1
        try clear p2
        try clear c3
        try clear c3b0
        try clear c3b1
        obtain ⟨x3_1, x4_1, rfl, HA, HK1, HO_3, HB⟩ := hrel
        cases gk with
        | zero => exact absurd HA.out (by simp [laws_toInt64S.l0])
        | succ k1 =>
          have H := HA.out
          clear HA
          simp only [laws_toInt64S.l0] at H
          by_cases c6 : x4_1 < (l0.length : Int)
          · rw [if_pos c6] at H
            have c6b0 : decide (x4_1 < (l0.length : Int)) = true := decide_eq_true c6
            clear c6
            by_cases c7 : 0 ≤ x4_1
            · rw [if_pos c7] at H
              have c7b0 : decide (0 ≤ x4_1) = true := decide_eq_true c7
              clear c7
              by_cases c8 : x4_1 < (x3_1.length : Int)
              · rw [if_pos c8] at H
                have c8b0 : decide (x4_1 < (x3_1.length : Int)) = true := decide_eq_true c8
                clear c8
                obtain ⟨y112, hy112⟩ : ∃ y_ : List Int, y_ = (x3_1.set (x4_1 : Int).toNat (rd l0 x4_1)) := ⟨_, rfl⟩
                replace H : (laws_toInt64S.l0 k1 l0 y112 (wrap64 (x4_1 + 1))) = some r := by first | (rw [hy112]; with_reducible exact H) | (have H2_ := (Option.bind_some _ _).symm.trans H; rw [hy112]; with_reducible exact H2_) | (have H2_ := (Option.bind_some _ _).symm.trans H; with_reducible exact H2_) | with_reducible exact H | (rw [hy112]; exact H) | exact H
                have Ny112 := Aside0.mk hy112
                clear hy112
                have H' := Aside0.mk H
                clear H
                have p111 : 0 ≤ (x4_1 : Int) := of_decide_eq_true (by first | (with_reducible assumption) | assumption)
                have q111 : x4_1 < (l0.length : Int) := of_decide_eq_true (by first | (with_reducible assumption) | assumption)
                obtain ⟨ad111, e111, hx111_0⟩ := Kd.at_int HR0.out x4_1 p111 q111
                cases e111
                replace hx111_0 := (HB.out.cell (World.block_lt_of_cell? w _ hx111_0)).trans hx111_0
                replace p111 := eq_true p111
                replace q111 := eq_true q111
                have p9 : 0 ≤ (x4_1 : Int) := of_decide_eq_true (by first | (with_reducible assumption) | assumption)
                have q9 : (x4_1 : Int) < ((x3_1.length : Int) : Int) := of_decide_eq_true (by first | (with_reducible assumption) | assumption)
                obtain ⟨go9, co9, eo9, gb9, gl9, cl9, HG9⟩ := Kd.R_form HO_3.out (by omega)
                (first | cases eo9 | (injection eo9 with ea_ en_ ec_; (first | subst ea_ | (injection ea_ with ea_; subst ea_)); subst ec_; clear en_))
                have GB9 := Aside0.mk gb9
                have GG9 := Aside0.mk HG9
                clear gb9 gl9 HG9
                obtain ⟨hx9_0, hf9_0⟩ := Kd.R_celln 0 HO_3.out (x4_1 : Int) p9 q9
                replace p9 := eq_true p9
                replace q9 := eq_true q9
                obtain ⟨hy10_, hz10_⟩ := Kd.R_celln 0 HO_3.out (x4_1 : Int) (of_decide_eq_true (by first | (with_reducible assumption) | assumption)) (of_decide_eq_true (by first | (with_reducible assumption) | assumption))
                have HP10 := Kd.R_putg HO_3.out (x4_1 : Int) (rd l0 x4_1)
                go_wp2_with (first | ((with_reducible refine gate_store (t := 2) (p := 20) rfl ?_); refine store_event (t := 2) (p := 20) (v := ?vo_w11) (w1 := (wr.setCell ⟨go9, (x4_1 : Int).toNat, none⟩ (.int .i64 (rd l0 x4_1)))) ?hg ?ho ?hn ?hr ?_; (case ho => rfl); (case hg => rfl); (case hn => rfl); (case hr => first | (go_simp; done) | (go_simp; rfl)); intro w11 hw; have hg : wr.grownBy w11 (some go9) := (by rw [hw]; exact HP10.2); have hp_ : Kd.R (Kd.int .i64) 2 w11 w.heap.size (fun _ => True) (.slice (some ⟨go9, 0, none⟩) x3_1.length co9) y112 := (by rw [hw, Ny112.out]; exact HP10.1); clear HP10; have n0_ := Aside0.mk (hp_); have n1_ := Aside0.mk ((by rw [hw]; exact below_set (HB.out) GB9.out : Below w.heap.size w w11)); clear HO_3; clear HB; have HO_3 := n0_; have HB := n1_; clear n0_ n1_; clear hg hw hp_))
                go_roundg k1
                case measure => have := HK1.out; omega
                case rel => exact ⟨(y112), (wrap64 (x4_1 + 1)), (by first | rfl | (simp; done) | (simp [*]; done)), H', ⟨by have := HK1.out; omega⟩, ⟨by (with_reducible repeat (first | apply Kd.R_alloc | apply Kd.R_drewN | apply Kd.R_drew)); exact HO_3.out⟩, ⟨by repeat (first | (with_reducible first | exact HB.out | apply below_alloc | apply pw_below_drewN | apply below_drew1) | exact HB.out)⟩⟩
              · rw [if_neg c8] at H
                exact absurd H (by simp)
            · rw [if_neg c7] at H
              exact absurd H (by simp)
          · rw [if_neg c6] at H
            have c6b0 : decide (x4_1 < (l0.length : Int)) = false := decide_eq_false c6
            clear c6
            obtain rfl := Option.some.inj H
            go_wp2
            go_ret
            exact ⟨_, by first | rfl | (simp [errW_none, errW_some] <;> rfl) | (simp [*, errW_none, errW_some] <;> rfl), by (with_reducible repeat (first | apply Kd.R_alloc | apply Kd.R_drewN | apply Kd.R_drew)); exact HO_3.out, by repeat (first | (with_reducible first | exact HB.out | apply below_alloc | apply pw_below_drewN | apply below_drew1) | exact HB.out)⟩
    · rw [if_neg c3] at H
      exact absurd H (by simp)
  · rw [if_neg c2] at H
    exact absurd H (by simp)

/-! ### laws_toBraid: function 6 -/
def laws_toBraid.f (k : Nat) (a0_0 : Int) (l0_1 : List Int) : Option (Int × List Int) := (laws_toInt64S.f k l0_1).bind fun t116 => (some (a0_0, t116))
theorem laws_toBraid.mono : ∀ a0 a1 k, LeO (laws_toBraid.f k a0 a1) (laws_toBraid.f (k + 1) a0 a1) := by
  intro a0 a1 k
  unfold laws_toBraid.f
  repeat' first
      | (with_reducible exact laws_toInt64S.mono _ _)
      | (with_reducible exact LeO.refl _)
      | (with_reducible exact LeO.none _)
      | (with_reducible refine LeO.ite ?_ ?_)
      | (with_reducible refine LeO.bind ?_ (fun _ => ?_))
      | exact laws_toInt64S.mono _ _
      | exact LeO.none _
      | refine LeO.ite ?_ ?_
      | refine LeO.bind ?_ (fun _ => ?_)
set_option maxHeartbeats 8000000 in
set_option maxRecDepth 100000 in
theorem laws_toBraid.calls (k : Nat) (a0_0 : Int) (A0_1 : Option Addr) (c0_1 : Nat) (l0_1 : List Int) (r1 : Int) (r2 : List Int) (w : World) (hr0_1 : Kd.C (Kd.int .i64) w A0_1 l0_1.length l0_1) (hc0_1 : l0_1.length ≤ c0_1) (h : laws_toBraid.f k a0_0 l0_1 = some (r1, r2)) :
    Calls Try.prog 6 #[.agg #[.int .i64 a0_0, .slice A0_1 l0_1.length c0_1]] w fun e w' => ∃ v1_ : Value, e = .returned (.agg #[.int .i64 r1, v1_]) ∧ Kd.R (Kd.int .i64) 2 w' w.heap.size (fun _ => True) v1_ r2 ∧ Below w.heap.size w w' := by
  have hu24 := Try.underlying24
  have hu28 := Try.underlying28
  have HR0_1 := Aside0.mk hr0_1
  have HC0_1 := Aside0.mk hc0_1
  clear hr0_1 hc0_1
  have HB := Aside0.mk (Below.refl w.heap.size w)
  have H : ((laws_toInt64S.f k l0_1).bind fun t116 => (some (a0_0, t116))) = some (r1, r2) := h
  clear h
  replace H := Option.bind_eq_some_iff.mp H
  obtain ⟨t116, A20, H⟩ := H
  replace H : (some (a0_0, t116)) = some (r1, r2) := H
  have A2 := Aside0.mk A20
  clear A20
  simp only [Option.some.injEq, Prod.mk.injEq] at H
  obtain ⟨rfl, rfl⟩ := H
  go_enter Try.func6, Try.ntmps6
  go_wp2_with (first | ((with_reducible refine gate_dst (N := 1) rfl ?_); refine box_event ?hg (N := 1) ?hd (cs := #[.int .i64 a0_0, .slice A0_1 l0_1.length c0_1]) (t := 24) ?hr ?_; (case hd => rfl); (case hg => rfl); (case hr => first | (go_simp; done) | (go_simp; rfl)); intro gb113 hg w3 hbox hb; have n0_ := Aside0.mk (below_step (by repeat (first | (with_reducible first | exact HB.out | apply below_alloc | apply pw_below_drewN | apply below_drew1) | exact HB.out)) hb); have n1_ := Aside0.mk (hbox); have n2_ := Aside0.mk ((by rw [hg]; exact (below_size (by repeat (first | (with_reducible first | exact HB.out | apply below_alloc | apply pw_below_drewN | apply below_drew1) | exact HB.out))) : w.heap.size ≤ gb113)); have n3_ := Aside0.mk ((by rw [hg]; exact (below_size (by repeat (first | (with_reducible first | exact HB.out | apply below_alloc | apply pw_below_drewN | apply below_drew1) | exact HB.out))) : w.heap.size ≤ gb113)); clear HB; have HB := n0_; have BK113 := n1_; have GW113 := n2_; have GE113 := n3_; clear n0_ n1_ n2_ n3_; clear hb hbox hg) | ((with_reducible refine gate_dst (N := 2) rfl ?_); refine box_event ?hg (N := 2) ?hd (cs := #[.int .i64 0, .slice none 0 0]) (t := 28) ?hr ?_; (case hd => rfl); (case hg => rfl); (case hr => first | (go_simp; done) | (go_simp; rfl)); intro gb114 hg w4 hbox hb; have n0_ := Aside0.mk (blk_below (g := gb113) (o := .cells #[.int .i64 a0_0, .slice A0_1 l0_1.length c0_1] 24 (0, 0)) (by (with_reducible repeat (first | refine blk_drewN ?_ _ | refine blk_drew ?_ | refine blk_alloc ?_ _)); exact BK113.out) hb); have n1_ := Aside0.mk (below_step (by repeat (first | (with_reducible first | exact HB.out | apply below_alloc | apply pw_below_drewN | apply below_drew1 | refine below_set ?_ GE113.out) | exact HB.out)) hb); have n2_ := Aside0.mk (hbox); have n3_ := Aside0.mk ((by rw [hg]; exact (below_size (by repeat (first | (with_reducible first | exact HB.out | apply below_alloc | apply pw_below_drewN | apply below_drew1 | refine below_set ?_ GE113.out) | exact HB.out))) : w.heap.size ≤ gb114)); have n4_ := Aside0.mk ((by rw [hg]; exact (below_size (by repeat (first | (with_reducible first | exact HB.out | apply below_alloc | apply pw_below_drewN | apply below_drew1 | refine below_set ?_ GE113.out) | exact HB.out))) : w.heap.size ≤ gb114)); have n5_ := Aside0.mk ((by rw [hg]; exact Nat.ne_of_lt (blk_lt (g := gb113) (o := .cells #[.int .i64 a0_0, .slice A0_1 l0_1.length c0_1] 24 (0, 0)) (by (with_reducible repeat (first | refine blk_drewN ?_ _ | refine blk_drew ?_ | refine blk_alloc ?_ _)); exact BK113.out)) : gb113 ≠ gb114)); have n6_ := Aside0.mk ((by rw [hg]; exact Nat.ne_of_gt (blk_lt (g := gb113) (o := .cells #[.int .i64 a0_0, .slice A0_1 l0_1.length c0_1] 24 (0, 0)) (by (with_reducible repeat (first | refine blk_drewN ?_ _ | refine blk_drew ?_ | refine blk_alloc ?_ _)); exact BK113.out)) : gb114 ≠ gb113)); clear BK113; clear HB; have BK113 := n0_; have HB := n1_; have BK114 := n2_; have GW114 := n3_; have GE114 := n4_; have NB113_114 := n5_; have NB114_113 := n6_; clear n0_ n1_ n2_ n3_ n4_ n5_ n6_; clear hb hbox hg) | ((with_reducible refine gate_dst (N := 3) rfl ?_); refine box_event ?hg (N := 3) ?hd (cs := #[.int .i64 0, .slice none 0 0]) (t := 28) ?hr ?_; (case hd => rfl); (case hg => rfl); (case hr => first | (go_simp; done) | (go_simp; rfl)); intro gb115 hg w5 hbox hb; have n0_ := Aside0.mk (blk_below (g := gb113) (o := .cells #[.int .i64 a0_0, .slice A0_1 l0_1.length c0_1] 24 (0, 0)) (by (with_reducible repeat (first | refine blk_drewN ?_ _ | refine blk_drew ?_ | refine blk_alloc ?_ _)); exact BK113.out) hb); have n1_ := Aside0.mk (blk_below (g := gb114) (o := .cells #[.int .i64 0, .slice none 0 0] 28 (0, 0)) (by (with_reducible repeat (first | refine blk_drewN ?_ _ | refine blk_drew ?_ | refine blk_alloc ?_ _)); exact BK114.out) hb); have n2_ := Aside0.mk (below_step (by repeat (first | (with_reducible first | exact HB.out | apply below_alloc | apply pw_below_drewN | apply below_drew1 | refine below_set ?_ GE113.out | refine below_set ?_ GE114.out) | exact HB.out)) hb); have n3_ := Aside0.mk (hbox); have n4_ := Aside0.mk ((by rw [hg]; exact (below_size (by repeat (first | (with_reducible first | exact HB.out | apply below_alloc | apply pw_below_drewN | apply below_drew1 | refine below_set ?_ GE113.out | refine below_set ?_ GE114.out) | exact HB.out))) : w.heap.size ≤ gb115)); have n5_ := Aside0.mk ((by rw [hg]; exact (below_size (by repeat (first | (with_reducible first | exact HB.out | apply below_alloc | apply pw_below_drewN | apply below_drew1 | refine below_set ?_ GE113.out | refine below_set ?_ GE114.out) | exact HB.out))) : w.heap.size ≤ gb115)); have n6_ := Aside0.mk ((by rw [hg]; exact Nat.ne_of_lt (blk_lt (g := gb113) (o := .cells #[.int .i64 a0_0, .slice A0_1 l0_1.length c0_1] 24 (0, 0)) (by (with_reducible repeat (first | refine blk_drewN ?_ _ | refine blk_drew ?_ | refine blk_alloc ?_ _)); exact BK113.out)) : gb113 ≠ gb115)); have n7_ := Aside0.mk ((by rw [hg]; exact Nat.ne_of_gt (blk_lt (g := gb113) (o := .cells #[.int .i64 a0_0, .slice A0_1 l0_1.length c0_1] 24 (0, 0)) (by (with_reducible repeat (first | refine blk_drewN ?_ _ | refine blk_drew ?_ | refine blk_alloc ?_ _)); exact BK113.out)) : gb115 ≠ gb113)); have n8_ := Aside0.mk ((by rw [hg]; exact Nat.ne_of_lt (blk_lt (g := gb114) (o := .cells #[.int .i64 0, .slice none 0 0] 28 (0, 0)) (by (with_reducible repeat (first | refine blk_drewN ?_ _ | refine blk_drew ?_ | refine blk_alloc ?_ _)); exact BK114.out)) : gb114 ≠ gb115)); have n9_ := Aside0.mk ((by rw [hg]; exact Nat.ne_of_gt (blk_lt (g := gb114) (o := .cells #[.int .i64 0, .slice none 0 0] 28 (0, 0)) (by (with_reducible repeat (first | refine blk_drewN ?_ _ | refine blk_drew ?_ | refine blk_alloc ?_ _)); exact BK114.out)) : gb115 ≠ gb114)); clear BK113; clear BK114; clear HB; have BK113 := n0_; have BK114 := n1_; have HB := n2_; have BK115 := n3_; have GW115 := n4_; have GE115 := n5_; have NB113_115 := n6_; have NB115_113 := n7_; have NB114_115 := n8_; have NB115_114 := n9_; clear n0_ n1_ n2_ n3_ n4_ n5_ n6_ n7_ n8_ n9_; clear hb hbox hg; have hnb6 := NB113_114.out; have hnc6 := NB114_113.out; have hnb7 := NB113_115.out; have hnc7 := NB115_113.out; have hcz8_0 : w5.cell? ⟨gb113, 0, none⟩ = some (.int .i64 a0_0) := (blk_cell BK113.out 0).trans rfl; have hcz8_1 : w5.cell? ⟨gb113, 1, none⟩ = some (.slice A0_1 l0_1.length c0_1) := (blk_cell BK113.out 1).trans rfl; have hfz8_0 := blk_frozen BK113.out 0; have hfz8_1 := blk_frozen BK113.out 1; have hnb9 := NB115_114.out; have hnc9 := NB114_115.out; have hcz10_0 : w5.cell? ⟨gb115, 0, none⟩ = some (.int .i64 0) := (blk_cell BK115.out 0).trans rfl; have hcz10_1 : w5.cell? ⟨gb115, 1, none⟩ = some (.slice none 0 0) := (blk_cell BK115.out 1).trans rfl; have hfz10_0 := blk_frozen BK115.out 0; have hfz10_1 := blk_frozen BK115.out 1) | ((with_reducible refine gate_callee (f := 13) rfl ?_); refine goesL_ (some 9) rfl rfl Try.func13 (by kernel_rfl) rfl #[.slice A0_1 l0_1.length c0_1] rfl (by (try simp only [List.map_toArray, List.map_cons, List.map_nil]); first | done | rfl | (simp only [List.length_drop, List.length_take]; rfl)) ?_; (with_reducible refine (laws_toInt64S.calls k _ _ l0_1 t116 _ ?side1 ?side2 A2.out).mono ?_); (case side1 => exact Kd.C_below HR0_1.out (by repeat (first | (with_reducible first | exact HB.out | apply below_alloc | apply pw_below_drewN | apply below_drew1 | refine below_set ?_ GE113.out | refine below_set ?_ GE114.out | refine below_set ?_ GE115.out) | exact HB.out))); (case side2 => exact HC0_1.out); rintro e w11 ⟨v117, rfl, ho0, hb⟩; refine ⟨_, rfl, ?_⟩; have n0_ := Aside0.mk (Kd.R_lower ho0 (below_size (by repeat (first | (with_reducible first | exact HB.out | apply below_alloc | apply pw_below_drewN | apply below_drew1 | refine below_set ?_ GE113.out | refine below_set ?_ GE114.out | refine below_set ?_ GE115.out) | exact HB.out)))); have n1_ := Aside0.mk (blk_below (g := gb113) (o := .cells #[.int .i64 a0_0, .slice A0_1 l0_1.length c0_1] 24 (0, 0)) (by (with_reducible repeat (first | refine blk_drewN ?_ _ | refine blk_drew ?_ | refine blk_alloc ?_ _)); refine blk_far ?_ NB113_115.out _; (with_reducible repeat (first | refine blk_drewN ?_ _ | refine blk_drew ?_ | refine blk_alloc ?_ _)); exact BK113.out) hb); have n2_ := Aside0.mk (blk_below (g := gb114) (o := .cells #[.int .i64 0, .slice none 0 0] 28 (0, 0)) (by (with_reducible repeat (first | refine blk_drewN ?_ _ | refine blk_drew ?_ | refine blk_alloc ?_ _)); refine blk_far ?_ NB114_115.out _; (with_reducible repeat (first | refine blk_drewN ?_ _ | refine blk_drew ?_ | refine blk_alloc ?_ _)); exact BK114.out) hb); have n3_ := Aside0.mk (blk_below (g := gb115) (o := .cells #[.int .i64 a0_0, .slice none 0 0] 28 (0, 0)) (by (with_reducible repeat (first | refine blk_drewN ?_ _ | refine blk_drew ?_ | refine blk_alloc ?_ _)); refine blk_put (cs := #[.int .i64 0, .slice none 0 0]) ?_ 0 _ rfl; (with_reducible repeat (first | refine blk_drewN ?_ _ | refine blk_drew ?_ | refine blk_alloc ?_ _)); exact BK115.out) hb); have n4_ := Aside0.mk (below_step (by repeat (first | (with_reducible first | exact HB.out | apply below_alloc | apply pw_below_drewN | apply below_drew1 | refine below_set ?_ GE113.out | refine below_set ?_ GE114.out | refine below_set ?_ GE115.out) | exact HB.out)) hb); clear BK113; clear BK114; clear BK115; clear HB; have HO118 := n0_; have BK113 := n1_; have BK114 := n2_; have BK115 := n3_; have HB := n4_; clear n0_ n1_ n2_ n3_ n4_; (try clear hb); (try clear hb2); (try clear hk); (try clear hi); (try clear ho0); obtain ⟨Ao12, co12, eo12⟩ := Kd.R_slice HO118.out; subst eo12; have hcz13_0 : w11.cell? ⟨gb115, 0, none⟩ = some (.int .i64 a0_0) := (blk_cell BK115.out 0).trans rfl; have hcz13_1 : w11.cell? ⟨gb115, 1, none⟩ = some (.slice none 0 0) := (blk_cell BK115.out 1).trans rfl; have hfz13_0 := blk_frozen BK115.out 0; have hfz13_1 := blk_frozen BK115.out 1; have hcz14_0 : w11.cell? ⟨gb114, 0, none⟩ = some (.int .i64 0) := (blk_cell BK114.out 0).trans rfl; have hcz14_1 : w11.cell? ⟨gb114, 1, none⟩ = some (.slice none 0 0) := (blk_cell BK114.out 1).trans rfl; have hfz14_0 := blk_frozen BK114.out 0; have hfz14_1 := blk_frozen BK114.out 1))
  refine bodyPost_ret (results_cell_row rfl _ _ gb114 28 #[.int .i64 a0_0, .slice Ao12 t116.length co12] (0, 0) _ rfl (by (with_reducible repeat (first | refine blk_drewN ?_ _ | refine blk_drew ?_ | refine blk_alloc ?_ _)); refine blk_put (cs := #[.int .i64 a0_0, .slice none 0 0]) ?_ 1 _ rfl; (with_reducible repeat (first | refine blk_drewN ?_ _ | refine blk_drew ?_ | refine blk_alloc ?_ _)); refine blk_put (cs := #[.int .i64 0, .slice none 0 0]) ?_ 0 _ rfl; (with_reducible repeat (first | refine blk_drewN ?_ _ | refine blk_drew ?_ | refine blk_alloc ?_ _)); refine blk_far ?_ NB114_115.out _; (with_reducible repeat (first | refine blk_drewN ?_ _ | refine blk_drew ?_ | refine blk_alloc ?_ _)); exact BK114.out) Try.underlying28 rfl (by kernel_rfl)) rfl ?_
  exact ⟨_, by first | rfl | (simp [errW_none, errW_some] <;> rfl) | (simp [*, errW_none, errW_some] <;> rfl), by (with_reducible repeat (first | apply Kd.R_alloc | apply Kd.R_drewN | apply Kd.R_drew)); exact Kd.R_mono (Kd.R_far (p := ⟨gb114, 1, none⟩) (Kd.R_far (p := ⟨gb114, 0, none⟩) (Kd.R_far (p := ⟨gb115, 1, none⟩) (Kd.R_types (Kd.R_types HO118.out BK115.out (by decide)) BK114.out (by decide)) (fun _ hk => hk.1.2) (.slice Ao12 t116.length co12)) (fun _ hk => hk.2) (.int .i64 a0_0)) (fun _ hk => hk.2) (.slice Ao12 t116.length co12)) (fun _ hk => trivial), by repeat (first | (with_reducible first | exact HB.out | apply below_alloc | apply pw_below_drewN | apply below_drew1 | refine below_set ?_ GE113.out | refine below_set ?_ GE114.out | refine below_set ?_ GE115.out) | exact HB.out)⟩

/-! ### impl_within: function 30 -/
def impl_within.f (a0 : Int) (a1 : Int) (a2 : Int) : Option (Bool) := if a0 ≥ a1 then (some (decide (a0 ≤ a2))) else (some false)
set_option maxHeartbeats 8000000 in
set_option maxRecDepth 100000 in
theorem impl_within.calls (a0 : Int) (a1 : Int) (a2 : Int) (r : Bool) (w : World) (h : impl_within.f a0 a1 a2 = some r) :
    Calls Try.prog 30 #[.int .i64 a0, .int .i64 a1, .int .i64 a2] w fun e w' => e = .returned (.bool r) ∧ Drawn0 w w' := by
  have H : (if a0 ≥ a1 then (some (decide (a0 ≤ a2))) else (some false)) = some r := h
  clear h
  by_cases c4 : a0 ≥ a1
  · rw [if_pos c4] at H
    have c4b0 : decide (a1 ≤ a0) = true := decide_eq_true c4
    clear c4
    obtain rfl := Option.some.inj H
    go_enter Try.func30, Try.ntmps30
    go_wp2
    go_ret
    exact ⟨by first | rfl | (simp; done) | (simp [*]; done), by repeat (first | exact Drawn0.refl _ | apply Drawn0.step)⟩
  · rw [if_neg c4] at H
    have c4b0 : decide (a1 ≤ a0) = false := decide_eq_false c4
    clear c4
    obtain rfl := Option.some.inj H
    go_enter Try.func30, Try.ntmps30
    go_wp2
    go_ret
    exact ⟨by first | rfl | (simp; done) | (simp [*]; done), by repeat (first | exact Drawn0.refl _ | apply Drawn0.step)⟩

/-! ### impl_isCount: function 24 -/
def impl_isCount.f (a0 : Int) : Option (Bool) := (impl_within.f a0 1 8).bind fun t119 => (some t119)
set_option maxHeartbeats 8000000 in
set_option maxRecDepth 100000 in
theorem impl_isCount.calls (a0 : Int) (r : Bool) (w : World) (h : impl_isCount.f a0 = some r) :
    Calls Try.prog 24 #[.int .i64 a0] w fun e w' => e = .returned (.bool r) ∧ Drawn0 w w' := by
  have H : ((impl_within.f a0 1 8).bind fun t119 => (some t119)) = some r := h
  clear h
  replace H := Option.bind_eq_some_iff.mp H
  obtain ⟨t119, A20, H⟩ := H
  replace H : (some t119) = some r := H
  have A2 := Aside0.mk A20
  clear A20
  obtain rfl := Option.some.inj H
  go_enter Try.func24, Try.ntmps24
  go_wp2_with (first | ((with_reducible refine gate_callee (f := 30) rfl ?_); refine goesL_ (some 4) rfl rfl Try.func30 (by kernel_rfl) rfl #[.int .i64 a0, .int .i64 1, .int .i64 8] rfl (by (try simp only [List.map_toArray, List.map_cons, List.map_nil]); first | done | rfl | (simp only [List.length_drop, List.length_take]; rfl)) ?_; (with_reducible refine (impl_within.calls a0 1 8 t119 _ A2.out).mono ?_); rintro e w' ⟨rfl, ⟨nd, rfl⟩⟩; refine ⟨_, rfl, ?_⟩))
  go_ret
  exact ⟨by first | rfl | (simp; done) | (simp [*]; done), by repeat (first | exact Drawn0.refl _ | apply Drawn0.step)⟩

/-! ### impl_isLetter: function 25 -/
def impl_isLetter.f (a0 : Int) (a1 : Int) : Option (Bool) := if a0 = 0 then (some false) else ((impl_within.f a0 (wrap64 (1 - a1)) (wrap64 (a1 - 1))).bind fun t120 => (some t120))
set_option maxHeartbeats 8000000 in
set_option maxRecDepth 100000 in
theorem impl_isLetter.calls (a0 : Int) (a1 : Int) (r : Bool) (w : World) (h : impl_isLetter.f a0 a1 = some r) :
    Calls Try.prog 25 #[.int .i64 a0, .int .i64 a1] w fun e w' => e = .returned (.bool r) ∧ Drawn0 w w' := by
  have H : (if a0 = 0 then (some false) else ((impl_within.f a0 (wrap64 (1 - a1)) (wrap64 (a1 - 1))).bind fun t120 => (some t120))) = some r := h
  clear h
  by_cases c3 : a0 = 0
  · rw [if_pos c3] at H
    have c3b0 : (a0 == 0) = true := beq_iff_eq.mpr c3
    have c3b1 : (a0 != 0) = false := bne_eq_false_iff_eq.mpr c3
    clear c3
    obtain rfl := Option.some.inj H
    go_enter Try.func25, Try.ntmps25
    go_wp2
    go_ret
    exact ⟨by first | rfl | (simp; done) | (simp [*]; done), by repeat (first | exact Drawn0.refl _ | apply Drawn0.step)⟩
  · rw [if_neg c3] at H
    have c3b0 : (a0 == 0) = false := beq_eq_false_iff_ne.mpr c3
    have c3b1 : (a0 != 0) = true := bne_iff_ne.mpr c3
    replace H := Option.bind_eq_some_iff.mp H
    obtain ⟨t120, A40, H⟩ := H
    replace H : (some t120) = some r := H
    have A4 := Aside0.mk A40
    clear A40
    obtain rfl := Option.some.inj H
    go_enter Try.func25, Try.ntmps25
    go_wp2_with (first | (go_at_call 30; (with_reducible refine (impl_within.calls a0 (wrap64 (1 - a1)) (wrap64 (a1 - 1)) t120 _ A4.out).mono ?_); rintro e w' ⟨rfl, ⟨nd, rfl⟩⟩))
    go_ret
    exact ⟨by first | rfl | (simp; done) | (simp [*]; done), by repeat (first | exact Drawn0.refl _ | apply Drawn0.step)⟩

end Go.Proofs.Ytmmoimofjomnlaa.MFnExactPlatComponents
