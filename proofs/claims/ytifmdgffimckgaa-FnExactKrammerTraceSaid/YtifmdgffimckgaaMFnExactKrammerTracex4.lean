-- Walks of the functions that a law reaches, one after the other: plain functions, and that the machine's calls come to what they tell (wip/tools/myprint.py of this repo).
import Derived.Test.YtifmdgffimckgaaMFnExactKrammerTracex0
import Derived.Test.YtifmdgffimckgaaMFnExactKrammerTracex3
import Derived.Test.YtifmdgffimckgaaLibArr
import Derived.Test.YtifmdgffimckgaaLibMx
namespace Go.Proofs.Ytifmdgffimckgaa.MFnExactKrammerTrace
open Go.RowKit Go.Proofs.YtifmdgffimckgaaW.PrintWords Go.Proofs.YtifmdgffimckgaaW.PrintLast Go.Proofs.YtifmdgffimckgaaW.PrintMore
open Go.Proofs.Ytifmdgffimckgaa.LibMx
open Go.Proofs.Ytifmdgffimckgaa.LibArr
attribute [local go_sem] max2_int min2_int max_two min_two max_three min_three max_four min_four   -- for this text's walks alone
set_option linter.unusedVariables false
set_option linter.unusedSimpArgs false

/-! ### spec_l09Solve: function 41 -/
def spec_l09Solve.f (k : Nat) (l0 : List (List Int)) : Option (Int × List (List Int)) := if iv.Sq l0.length l0 ∧ 1 ≤ l0.length ∧ l0.length ≤ 28 then sv.slv (fun x => spec_l09Inverse.f k x) l0.length l0.length 0 (sv.start l0) 1 else none
theorem spec_l09Solve.mono : ∀ a0 k, LeO (spec_l09Solve.f k a0) (spec_l09Solve.f (k + 1) a0) := by
  intro a0 k
  unfold spec_l09Solve.f
  exact LeO.ite (sv.slv_mono _ _ _ (fun x => spec_l09Inverse.mono _ _) _ _ _ _) (LeO.refl _)
def spec_l09Solve.T38 : Bool × List (List Nat × List Nat) := (true, [([], []), ([], []), ([], []), ([1, 2], [1, 2]), ([3], [3]), ([], []), ([4, 5], [4, 5]), ([6], [6]), ([], []), ([], []), ([], []), ([9, 10], [9, 10]), ([11], [11]), ([8, 12], [8, 12]), ([7, 13], [7, 13]), ([14], [14]), ([15], [15]), ([0, 16, 15], [0, 16]), ([17, 17, 0, 1, 2, 3, 4, 5, 6, 7, 8, 9, 10, 11, 12, 13, 14, 15, 16, 17], [0, 17])])
def spec_l09Solve.B38 : List Nat := [0, 0, 0, 6, 14, 0, 62, 126, 0, 0, 0, 1536, 3584, 7936, 16382, 32766, 65534, 131071, 262143]
theorem spec_l09Solve.tab38 : rtab .any (opsOf Try.f41 38) = spec_l09Solve.T38 := by kernel_rfl
theorem spec_l09Solve.bits38 : waitsOk spec_l09Solve.T38.2 spec_l09Solve.B38 = true := by kernel_rfl
set_option maxHeartbeats 8000000 in
set_option maxRecDepth 100000 in
theorem spec_l09Solve.calls (k : Nat) (A0 : Option Addr) (c0 : Nat) (l0 : List (List Int)) (r1 : Int) (r2 : List (List Int)) (w : World) (hr0 : Kd.C (Kd.slice 2 (Kd.int .i64)) w A0 l0.length l0) (hc0 : l0.length ≤ c0) (h : spec_l09Solve.f k l0 = some (r1, r2)) :
    Calls Try.prog 41 #[.slice A0 l0.length c0] w fun e w' => ∃ v0_ : Value, e = .returned (.tuple #[.int .i64 r1, v0_]) ∧ Kd.S (Kd.slice 2 (Kd.int .i64)) 22 w' w.heap.size (fun _ => True) v0_ r2 ∧ Below w.heap.size w w' := by
  have HR0 := Aside0.mk hr0
  have HC0_ := Aside0.mk hc0
  clear hr0 hc0
  have HB := Aside0.mk (Below.refl w.heap.size w)
  have H0 := h
  clear h
  unfold spec_l09Solve.f at H0
  by_cases hg : iv.Sq l0.length l0 ∧ 1 ≤ l0.length ∧ l0.length ≤ 28
  case neg => rw [if_neg hg] at H0; cases H0
  rw [if_pos hg] at H0
  have HSA := Aside0.mk hg.1
  have HM := Aside0.mk hg.2
  have H' := Aside0.mk H0
  clear H0 hg
  have HST := Aside0.mk (sv.start_Rq HSA.out)
  obtain ⟨Q0, hQ0⟩ : ∃ x, sv.start l0 = x := ⟨_, rfl⟩
  have HQ0 := Aside0.mk hQ0
  rw [hQ0] at HST H'
  clear hQ0
  go_enter Try.func41, Try.ntmps41
  go_wp2_with (first | ((with_reducible refine gate_dst (N := 23) rfl ?_); refine Kd.S_lit (Kd.slice 2 (Kd.int .i64)) _ 22 ?hg (N := 23) ?hd (xs := ([] : List (List Int))) (inner := []) (ok := fun _ => True) (okp := fun _ => True) ?hr ?hp (fun _ hk => hk) trivial (Below.refl _ _) (Nat.le_refl _) (by simp) ?_; (case hd => rfl); (case hg => rfl); (case hr => first | (go_simp; done) | (go_simp; rfl)); (case hp => exact (Reps.none _ _)); intro v23 w2 ho3 hb hg_ hnew_; clear hg_ hnew_; have SL := Aside0.mk (Kd.S_lower ho3 (below_size (by repeat (first | (with_reducible first | exact HB.out | apply below_alloc | apply pw_below_drewN | apply below_drew1) | exact HB.out)))); have n_ := Aside0.mk (below_step (by repeat (first | (with_reducible first | exact HB.out | apply below_alloc | apply pw_below_drewN | apply below_drew1) | exact HB.out)) hb); clear HB; have HB := n_; clear n_; clear hb ho3))
  go_loopg [5, 7] 30 (fun kq v5 v7 wr => ∃ (i : Int), v7 = .int .i64 i ∧ Aside0 ((l0.length : Int) - i < kq) ∧ Aside0 (0 ≤ i ∧ i ≤ (l0.length : Int)) ∧ Aside0 (Mx 2 22 wr w.heap.size (fun _ => True) v5 (Q0.take i.toNat)) ∧ Aside0 (Below w.heap.size w wr))
  case atStart => exact ⟨0, (by first | rfl | (simp; done) | (simp [*]; done)), ⟨by have := HM.out; omega⟩, ⟨by omega⟩, ⟨(by (with_reducible repeat (first | apply Kd.S_alloc | apply Kd.S_drewN | apply Kd.S_drew)); exact SL.out)⟩, ⟨(by repeat (first | (with_reducible first | exact HB.out | apply below_alloc | apply pw_below_drewN | apply below_drew1) | exact HB.out))⟩⟩
  case round =>
    clear SL HB
    obtain ⟨i, rfl, HQ, HI, SL, HB⟩ := hrel
    cases gk with
    | zero => exact absurd HQ.out (by have := HI.out; omega)
    | succ k1 =>
    by_cases c1_ : i < (l0.length : Int)
    · have c1b : decide (i < (l0.length : Int)) = true := decide_eq_true c1_
      have p0 : 0 ≤ i := HI.out.1
      have HIL := Aside0.mk c1_
      obtain ⟨ad, A0i, c0i, e1, hx, hl, hi⟩ := at_L1 HR0.out i p0 c1_
      cases e1
      have HX := Aside0.mk hx
      have HRI := Aside0.mk hi
      have HCI := Aside0.mk hl
      clear hi hl hx
      have HLR : Aside0 ((rd_L1 l0 i).length = l0.length) := ⟨HSA.out.at i p0 c1_⟩
      have HCP : Aside0 (spec_l01Own.f (rd_L1 l0 i) = some (rd_L1 l0 i)) := ⟨by have h_ := HLR.out; have := HM.out; simp only [spec_l01Own.f, Option.bind_some, List.nil_append, List.length_nil]; rw [if_pos (by omega)]⟩
      have pp1 : (0 ≤ i) = True := eq_true p0
      have qq1 : (i < (l0.length : Int)) = True := eq_true c1_
      clear p0 c1_
      obtain ⟨RW, hRW⟩ : ∃ x, rd_L1 l0 i ++ ((List.replicate l0.length (0 : Int)).set i.toNat 1) = x := ⟨_, rfl⟩
      have HRW := Aside0.mk hRW
      clear hRW
      go_wp2_with (first | ((with_reducible refine gate_dst (N := 30) rfl ?_); refine Kd.R_make (Kd.int .i64) _ 2 rfl (N := 30) rfl 22 _ _ rfl (l0.length : Int) rfl rfl Try.underlying22 (.int .i64 0) 8 info2 rfl (by decide) (by omega) 0 (ok := fun _ => True) (okp := fun _ => True) rfl (fun _ hk => hk) trivial (by have := HM.out; omega) (by have := HM.out; omega) (Below.refl _ _) (Nat.le_refl _) ?_; intro vU w3 ho hb hg_ hnew_; clear hg_ hnew_; rw [Int.toNat_natCast] at ho; obtain ⟨gU, cU, eU, _, _, _, _⟩ := Kd.R_form ho (by rw [List.length_replicate]; have := HM.out; omega); rw [List.length_replicate] at eU; subst eU; have n_ := Aside0.mk (Kd.S_mono (ok' := fun k_ => some k_ ≠ (.slice (some ⟨gU, 0, none⟩) l0.length cU : Value).ownBlock) (Kd.S_elder' (by (with_reducible repeat (first | apply Kd.S_alloc | apply Kd.S_drewN | apply Kd.S_drew)); exact SL.out) (Kd.R_base ho) hb) (fun k_ hk_ => hk_.2)); clear SL; have SL := n_; clear n_; have RU := Aside0.mk (Kd.R_lower ho (below_size (by repeat (first | (with_reducible first | exact HB.out | apply below_alloc | apply pw_below_drewN | apply below_drew1) | exact HB.out)))); have GU := Aside0.mk (Kd.R_base RU.out gU rfl); have n_ := Aside0.mk (below_step (by repeat (first | (with_reducible first | exact HB.out | apply below_alloc | apply pw_below_drewN | apply below_drew1) | exact HB.out)) hb); clear HB; have HB := n_; clear n_; clear hb ho; obtain ⟨hxu, hfu⟩ := Kd.R_celln 0 RU.out i HI.out.1 HIL.out) | ((with_reducible refine gate_store (t := 2) (p := 33) rfl ?_); (first | (rw [drewN_self w3]; generalize hq_ : World.drewN w3 _ = w4) | (rw [drew_self w3]; generalize hq1_ : World.drew w3 = w4; have hq_ : World.drewN w3 1 = w4 := hq1_; clear hq1_) | (rw [show w3 = World.drewN w3 0 from rfl]; generalize hq_ : World.drewN w3 0 = w4)); have n_ := Aside0.mk (Kd.S_at hq_ SL.out); clear SL; have SL := n_; clear n_; have n_ := Aside0.mk (Kd.R_at hq_ RU.out); clear RU; have RU := n_; clear n_; have n_ := Aside0.mk (ar_below_at hq_ HB.out); clear HB; have HB := n_; clear n_; clear hq_ hxu hfu; obtain ⟨hxu, hfu⟩ := Kd.R_celln 0 RU.out i HI.out.1 HIL.out; have HB0 := HB; have HP := Kd.R_putg RU.out i 1; refine store_event (t := 2) (p := 33) (v := ?vo_u) (w1 := (w4.setCell ⟨gU, (i : Int).toNat, none⟩ (.int .i64 1))) ?hg ?ho ?hn ?hr ?_; (case ho => rfl); (case hg => rfl); (case hn => rfl); (case hr => first | (go_simp; done) | (go_simp; rfl)); intro w5 hw; have hg : w4.grownBy w5 (some gU) := (by rw [hw]; exact HP.2); have n_ : Aside0 (Kd.R (Kd.int .i64) 2 w5 w.heap.size (fun _ => True) (.slice (some ⟨gU, 0, none⟩) l0.length cU) ((List.replicate l0.length (0 : Int)).set i.toNat 1)) := ⟨by rw [hw]; exact HP.1⟩; clear RU; have RU := n_; clear n_; have n_ := Aside0.mk (Kd.S_grown SL.out hg (fun k_ h_ => h_)); clear SL; have SL := n_; clear n_; clear HB; have HB : Aside0 (Below w.heap.size w w5) := ⟨by rw [hw]; exact below_set HB0.out GU.out⟩; clear HB0 hw hg HP hxu hfu; have hx := (HB.out.cell (World.block_lt_of_cell? w _ HX.out)).trans HX.out) | ((with_reducible refine gate_callee (f := 54) rfl ?_); refine goesL_ (some 39) rfl rfl Try.func54 (by kernel_rfl) rfl #[.slice A0i (rd_L1 l0 i).length c0i] rfl (by (try simp only [List.map_toArray, List.map_cons, List.map_nil]); first | done | rfl) ?_; (with_reducible refine (spec_l01Own.calls _ _ (rd_L1 l0 i) (rd_L1 l0 i) _ ?side1 ?side2 HCP.out).mono ?_); (case side1 => repeat (first | exact Kd.C_below HRI.out HB.out | (with_reducible refine Kd.C_alloc ?_ _) | (with_reducible refine Kd.C_drewN ?_ _) | (with_reducible refine Kd.C_drew ?_))); (case side2 => exact HCI.out); rintro e w6 ⟨vO, rfl, ho0, hb⟩; refine ⟨_, rfl, ?_⟩; obtain ⟨AO, cO, rfl⟩ := Kd.R_slice ho0; have n_ := Aside0.mk (Kd.S_mono (ok' := fun k_ => some k_ ≠ (.slice AO (rd_L1 l0 i).length cO : Value).ownBlock) (Kd.S_elder' (by (with_reducible repeat (first | apply Kd.S_alloc | apply Kd.S_drewN | apply Kd.S_drew)); exact SL.out) (Kd.R_base ho0) hb) (fun k_ hk_ => hk_.2)); clear SL; have SL := n_; clear n_; have RO := Aside0.mk (Kd.R_lower ho0 (below_size (by repeat (first | (with_reducible first | exact HB.out | apply below_alloc | apply pw_below_drewN | apply below_drew1) | exact HB.out)))); have n_ := Aside0.mk (Kd.R_below (by (with_reducible repeat (first | apply Kd.R_alloc | apply Kd.R_drewN | apply Kd.R_drew)); exact RU.out) hb); clear RU; have RU := n_; clear n_; have n_ := Aside0.mk (below_step (by repeat (first | (with_reducible first | exact HB.out | apply below_alloc | apply pw_below_drewN | apply below_drew1) | exact HB.out)) hb); clear HB; have HB := n_; clear n_; clear hb ho0) | ((with_reducible refine gate_builtin (b := .append) (xs := #[.tmp 39, .tmp 40]) rfl ?_); at_builtin; refine Kd.R_append_rows (Kd.int .i64) (w0 := w) w.heap.size rfl (.tmp 39) (.tmp 40) 22 2 (.int .i64 0) 8 rfl Try.underlying22 info2 rfl (by decide) (by omega) (.slice AO (rd_L1 l0 i).length cO) (rd_L1 l0 i) ((List.replicate l0.length (0 : Int)).set i.toNat 1) _ _ _ (fun _ => True) (fun _ => False) rfl rfl ?aO ?aR (fun _ _ h => h) (fun _ h => h.elim) ?aF ?aB ?aS ?aL ?_; (case aR => (have h_ := (Kd.R_reads' RU.out).2.2; rw [List.length_set, List.length_replicate] at h_; first | exact h_ | exact Kd.C_drewN h_ _ | exact Kd.C_drew h_)); (case aB => exact (by repeat (first | (with_reducible first | exact HB.out | apply below_alloc | apply pw_below_drewN | apply below_drew1) | exact HB.out))); (case aF => exact (fun _ _ => trivial)); (case aO => exact (by (with_reducible repeat (first | apply Kd.R_alloc | apply Kd.R_drewN | apply Kd.R_drew)); exact RO.out)); (case aS => exact (below_size (by repeat (first | (with_reducible first | exact HB.out | apply below_alloc | apply pw_below_drewN | apply below_drew1) | exact HB.out)))); (case aL => have := HLR.out; have := HM.out; omega); intro v9 w7 ho hb hg hat; rw [HRW.out] at ho; have n_ := Aside0.mk ((Kd.S_after (ok := (fun _ => True)) (Kd.S_mono (by (with_reducible repeat (first | apply Kd.S_alloc | apply Kd.S_drewN | apply Kd.S_drew)); exact SL.out) (fun k_ hk_ => ⟨trivial, hk_⟩)) hg hat)); clear SL; have SL := Aside0.mk (Kd.S_mono n_.out (fun k_ hk_ => hk_.2)); clear n_ RO RU HB; obtain ⟨A9, c9, e9⟩ := Kd.R_slice ho; subst e9; have RO := Aside0.mk ho; have HB := Aside0.mk hb; clear ho hb hg hat) | ((with_reducible refine gate_builtin (b := .append) (xs := #[.tmp 34, .tmp 42]) rfl ?_); at_builtin; refine Kd.S_append (Kd.slice 2 (Kd.int .i64)) (w0 := w) w.heap.size rfl (.tmp 34) (.tmp 42) 26 22 (.slice none 0 0) 24 rfl Try.underlying26 info22 rfl (by decide) (by omega) u5 (Q0.take i.toNat) RW [(.slice A9 RW.length c9 : Value)] (fun _ => True) (fun k_ => some k_ = (.slice A9 RW.length c9 : Value).ownBlock) rfl rfl ?aP (fun k_ hk_ => ((Kd.R_apart' RO.out (Kd.S_typed SL.out) (by decide))).1 k_ hk_.symm) ?aF ?aO ?aB ?aS ?aL ?_; (case aP => exact Kd.M_row (Kd.R_mono (Kd.R_tight rfl (Kd.R_apart' RO.out (Kd.S_typed SL.out) (by decide))) (fun _ h_ => h_))); (case aB => exact (by repeat (first | (with_reducible first | exact HB.out | apply below_alloc | apply pw_below_drewN | apply below_drew1) | exact HB.out))); (case aF => exact (fun k_ hk => trivial)); (case aO => exact (by (with_reducible repeat (first | apply Kd.S_alloc | apply Kd.S_drewN | apply Kd.S_drew)); exact Kd.S_mono SL.out (fun k_ hk => ⟨trivial, fun e_ => hk e_⟩))); (case aS => exact (below_size (by repeat (first | (with_reducible first | exact HB.out | apply below_alloc | apply pw_below_drewN | apply below_drew1) | exact HB.out)))); (case aL => have := HM.out; have := HIL.out; have := HI.out; rw [List.length_take]; omega); intro v7_ w8 ho hb hg hat; clear SL RO HB; have SL := Aside0.mk ho; have HB := Aside0.mk hb; clear ho hb hg hat))
      go_roundg k1
      case measure => omega
      case rel =>
        have HW := Aside0.mk (show wrap64 (i + 1) = i + 1 by have := HI.out; have := HIL.out; have := HM.out; unfold wrap64; omega)
        have HT : Aside0 (Q0.take i.toNat ++ [RW] = Q0.take (i + 1).toNat) := ⟨by have h0_ := HI.out.1; have h1_ := HIL.out; have h2_ := sv.start_at l0 i.toNat (by omega); rw [HQ0.out] at h2_; rw [← HRW.out]; unfold rd_L1; rw [← h2_, show (i + 1).toNat = i.toNat + 1 by omega]; exact sv.take_snoc Q0 i.toNat (by have := HST.out.1; omega) []⟩
        exact ⟨wrap64 (i + 1), (by first | rfl | (simp; done) | (simp [*]; done)), ⟨by have := HQ.out; rw [HW.out]; omega⟩, ⟨by have := HI.out; have := HIL.out; rw [HW.out]; omega⟩, ⟨by rw [HW.out, ← HT.out]; exact SL.out⟩, HB⟩
    · have c1b : decide (i < (l0.length : Int)) = false := decide_eq_false c1_
      obtain rfl : i = (l0.length : Int) := by have := HI.out; omega
      have n_ : Aside0 (Mx 2 22 wr w.heap.size (fun _ => True) u5 Q0) := ⟨by have h_ := SL.out; rw [Int.toNat_natCast, List.take_of_length_le (by rw [HST.out.1]; exact Nat.le_refl _)] at h_; exact h_⟩
      clear SL
      have SL := n_
      clear n_ c1_ HQ HI
      obtain ⟨gL, cL, e_, _, _, _⟩ := Kd.S_form SL.out (by have := HM.out; have := HST.out.1; omega)
      rw [HST.out.1] at e_
      subst e_
      obtain ⟨D, hD⟩ : ∃ d, 2 * l0.length = d := ⟨_, rfl⟩
      rw [hD] at HST
      have HD := Aside0.mk hD
      clear hD
      have HDW : Aside0 (wrap64 (2 * (l0.length : Int)) = (D : Int)) := ⟨by have := HM.out; have := HD.out; unfold wrap64; omega⟩
      have HGL := Aside0.mk (Kd.R_base (Kd.S_R SL.out) gL rfl)
      have HSL := HST
      have HSTQ := HST
      clear HST HSTQ
      go_wp2
      go_loopg [6, 9] 30 (fun kq v6 v9 wk => ∃ (L : List (List Int)) (p c : Int) (n : Nat), v6 = .int .i64 p ∧ v9 = .int .i64 c ∧ Aside0 (n < kq) ∧ Aside0 ((n : Int) + c = (l0.length : Int) ∧ 0 ≤ c) ∧ Aside0 (sv.slv (fun x => spec_l09Inverse.f k x) l0.length n c L p = some (r1, r2)) ∧ Aside0 (sv.Rq l0.length D L) ∧ Aside0 (Mx 2 22 wk w.heap.size (fun _ => True) (.slice (some ⟨gL, 0, none⟩) l0.length cL) L) ∧ Aside0 (Below w.heap.size w wk))
      case atStart => exact ⟨Q0, 1, 0, l0.length, (by first | rfl | (simp; done) | (simp [*]; done)), (by first | rfl | (simp; done) | (simp [*]; done)), ⟨by have := HM.out; omega⟩, ⟨by omega⟩, H', HSL, ⟨(by (with_reducible repeat (first | apply Kd.S_alloc | apply Kd.S_drewN | apply Kd.S_drew)); exact SL.out)⟩, ⟨(by repeat (first | (with_reducible first | exact HB.out | apply below_alloc | apply pw_below_drewN | apply below_drew1) | exact HB.out))⟩⟩
      case round =>
        clear SL HB H' HSL
        obtain ⟨L, p, c, n, rfl, rfl, HQ, HC, HA, HSL, SL, HB⟩ := hrel
        obtain ⟨wk, rfl⟩ : ∃ x, x = wr := ⟨_, rfl⟩
        cases gk with
        | zero => exact absurd HQ.out (Nat.not_lt_zero _)
        | succ k1 =>
        cases n with
        | zero =>
          have H := HA.out
          clear HA
          simp only [sv.slv, Option.some.injEq, Prod.mk.injEq] at H
          obtain ⟨rfl, hZ0⟩ := H
          have HZ0 := Aside0.mk hZ0
          clear hZ0
          have c1b : decide (c < (l0.length : Int)) = false := decide_eq_false (by have := HC.out; omega)
          have HRL := Aside0.mk (Kd.S_reads' SL.out).2.2
          have HB2 := Aside0.mk (Below.refl wk.heap.size wk)
          have HLL := HSL.out.1
          have HLL := Aside0.mk HLL
          clear SL
          go_wp2_with (first | ((with_reducible refine gate_dst (N := 179) rfl ?_); refine Kd.S_lit (Kd.slice 2 (Kd.int .i64)) _ 22 ?hg (N := 179) ?hd (xs := ([] : List (List Int))) (inner := []) (ok := fun _ => True) (okp := fun _ => True) ?hr ?hp (fun _ hk => hk) trivial (Below.refl _ _) (Nat.le_refl _) (by simp) ?_; (case hd => rfl); (case hg => rfl); (case hr => first | (go_simp; done) | (go_simp; rfl)); (case hp => exact (Reps.none _ _)); intro v179 w2 ho3 hb hg_ hnew_; clear hg_ hnew_; have SO := Aside0.mk (Kd.S_lower ho3 (below_size (by repeat (first | (with_reducible first | exact HB2.out | apply below_alloc | apply pw_below_drewN | apply below_drew1) | exact HB2.out)))); have n_ := Aside0.mk (below_step (by repeat (first | (with_reducible first | exact HB2.out | apply below_alloc | apply pw_below_drewN | apply below_drew1) | exact HB2.out)) hb); clear HB2; have HB2 := n_; clear n_; clear hb ho3))
          go_loopg [19, 20] 30 (fun kq v19 v20 wx => ∃ (i : Int), v20 = .int .i64 i ∧ Aside0 ((l0.length : Int) - i < kq) ∧ Aside0 (0 ≤ i ∧ i ≤ (l0.length : Int)) ∧ Aside0 (Mx 2 22 wx wk.heap.size (fun _ => True) v19 (r2.take i.toNat)) ∧ Aside0 (Below wk.heap.size wk wx))
          case atStart => exact ⟨0, (by first | rfl | (simp; done) | (simp [*]; done)), ⟨by have := HM.out; omega⟩, ⟨by omega⟩, ⟨(by (with_reducible repeat (first | apply Kd.S_alloc | apply Kd.S_drewN | apply Kd.S_drew)); exact SO.out)⟩, ⟨(by repeat (first | (with_reducible first | exact HB2.out | apply below_alloc | apply pw_below_drewN | apply below_drew1) | exact HB2.out))⟩⟩
          case round =>
            clear SO HB2
            obtain ⟨i, rfl, HQ2, HI, SO, HB2⟩ := hrel
            obtain ⟨wx, rfl⟩ : ∃ x, x = wr := ⟨_, rfl⟩
            cases gk with
            | zero => exact absurd HQ2.out (by have := HI.out; omega)
            | succ k2 =>
            by_cases c2_ : i < (l0.length : Int)
            · have c2b : decide (i < (l0.length : Int)) = true := decide_eq_true c2_
              have p0 : 0 ≤ i := HI.out.1
              have HIL := Aside0.mk c2_
              obtain ⟨ad, A0i, c0i, e1, hx, hl, hi⟩ := at_L1 HRL.out i p0 (by rw [HLL.out]; exact c2_)
              cases e1
              have HRI := Aside0.mk (Kd.C_below hi HB2.out)
              have HCI := Aside0.mk hl
              replace hx := (HB2.out.cell (World.block_lt_of_cell? wk _ hx)).trans hx
              rw [add_plain] at hx
              clear hi hl
              have HLR : Aside0 ((rd_L1 L i).length = D) := ⟨HSL.out.at i p0 c2_⟩
              obtain ⟨DR, hDR⟩ : ∃ x, (rd_L1 L i).drop l0.length = x := ⟨_, rfl⟩
              have HDR := Aside0.mk hDR
              have hy : DR.length = (rd_L1 L i).length - l0.length := (by rw [← hDR, List.length_drop])
              have HDL : Aside0 (DR.length = l0.length) := ⟨by have := HLR.out; have := HD.out; omega⟩
              have HCP : Aside0 (spec_l01Own.f DR = some DR) := ⟨by have h_ := HDL.out; have := HM.out; simp only [spec_l01Own.f, Option.bind_some, List.nil_append, List.length_nil]; rw [if_pos (by omega)]⟩
              have qc_ : (l0.length : Int) ≤ ((rd_L1 L i).length : Int) := (by have := HLR.out; have := HD.out; omega)
              obtain ⟨i0_, hi0_, _, hsz_, _⟩ := info_parts info2
              have hcut_ := cut_from (P := Try.prog) 22 2 .i64 Try.underlying22 hi0_ 1 hsz_ A0i (rd_L1 L i).length c0i (l0.length : Int) (by omega) qc_
              have hr_ := Kd.C_drop (m := l0.length) HRI.out (by omega) HCI.out
              rw [Int.toNat_natCast] at hcut_
              obtain ⟨A1, hA1⟩ : ∃ A1, A1 = (if c0i = l0.length then A0i else (A0i : Option Addr).map (·.add (l0.length * 1))) := ⟨_, rfl⟩
              obtain ⟨c1, hc1⟩ : ∃ c1, c1 = c0i - l0.length := ⟨_, rfl⟩
              rw [hDR] at hr_
              replace hr_ : Kd.C (Kd.int .i64) wx A1 DR.length DR := (by rw [hA1]; exact hr_)
              rw [← hy, ← hA1, ← hc1] at hcut_
              have HRD := Aside0.mk hr_
              have HCD := Aside0.mk (show DR.length ≤ c1 from by have := HCI.out; omega)
              replace qc_ := eq_true qc_
              have pp1 : (0 ≤ i) = True := eq_true p0
              have qq1 : (i < (l0.length : Int)) = True := eq_true c2_
              clear p0 c2_ hr_ hA1 hc1 hy hDR hi0_ hsz_
              go_wp2_with (first | ((with_reducible refine gate_callee (f := 54) rfl ?_); refine goesL_ (some 192) rfl rfl Try.func54 (by kernel_rfl) rfl #[.slice A1 DR.length c1] rfl (by (try simp only [List.map_toArray, List.map_cons, List.map_nil]); first | done | rfl) ?_; (with_reducible refine (spec_l01Own.calls _ _ DR DR _ ?side1 ?side2 HCP.out).mono ?_); (case side1 => repeat (first | exact HRD.out | (with_reducible refine Kd.C_alloc ?_ _) | (with_reducible refine Kd.C_drewN ?_ _) | (with_reducible refine Kd.C_drew ?_))); (case side2 => exact HCD.out); rintro e w6 ⟨vO, rfl, ho0, hb⟩; refine ⟨_, rfl, ?_⟩; obtain ⟨AO, cO, rfl⟩ := Kd.R_slice ho0; have n_ := Aside0.mk (Kd.S_mono (ok' := fun k_ => some k_ ≠ (.slice AO DR.length cO : Value).ownBlock) (Kd.S_elder' (by (with_reducible repeat (first | apply Kd.S_alloc | apply Kd.S_drewN | apply Kd.S_drew)); exact SO.out) (Kd.R_base ho0) hb) (fun k_ hk_ => hk_.2)); clear SO; have SO := n_; clear n_; have RO := Aside0.mk (Kd.R_lower ho0 (below_size (by repeat (first | (with_reducible first | exact HB2.out | apply below_alloc | apply pw_below_drewN | apply below_drew1) | exact HB2.out)))); have n_ := Aside0.mk (below_step (by repeat (first | (with_reducible first | exact HB2.out | apply below_alloc | apply pw_below_drewN | apply below_drew1) | exact HB2.out)) hb); clear HB2; have HB2 := n_; clear n_; clear hb ho0) | ((with_reducible refine gate_builtin (b := .append) (xs := #[.tmp 185, .tmp 193]) rfl ?_); at_builtin; refine Kd.S_append (Kd.slice 2 (Kd.int .i64)) (w0 := wk) wk.heap.size rfl (.tmp 185) (.tmp 193) 26 22 (.slice none 0 0) 24 rfl Try.underlying26 info22 rfl (by decide) (by omega) u19 (r2.take i.toNat) DR [(.slice AO DR.length cO : Value)] (fun _ => True) (fun k_ => some k_ = (.slice AO DR.length cO : Value).ownBlock) rfl rfl ?aP (fun k_ hk_ => ((Kd.R_apart' RO.out (Kd.S_typed SO.out) (by decide))).1 k_ hk_.symm) ?aF ?aO ?aB ?aS ?aL ?_; (case aP => exact Kd.M_row (Kd.R_mono (Kd.R_tight rfl (Kd.R_apart' RO.out (Kd.S_typed SO.out) (by decide))) (fun _ h_ => h_))); (case aB => exact (by repeat (first | (with_reducible first | exact HB2.out | apply below_alloc | apply pw_below_drewN | apply below_drew1) | exact HB2.out))); (case aF => exact (fun k_ hk => trivial)); (case aO => exact (by (with_reducible repeat (first | apply Kd.S_alloc | apply Kd.S_drewN | apply Kd.S_drew)); exact Kd.S_mono SO.out (fun k_ hk => ⟨trivial, fun e_ => hk e_⟩))); (case aS => exact (below_size (by repeat (first | (with_reducible first | exact HB2.out | apply below_alloc | apply pw_below_drewN | apply below_drew1) | exact HB2.out)))); (case aL => have := HM.out; have := HIL.out; have := HI.out; rw [List.length_take]; omega); intro v7_ w8 ho hb hg hat; clear SO RO HB2; have SO := Aside0.mk ho; have HB2 := Aside0.mk hb; clear ho hb hg hat))
              go_roundg k2
              case measure => omega
              case rel =>
                have HW := Aside0.mk (show wrap64 (i + 1) = i + 1 by have := HI.out; have := HIL.out; have := HM.out; unfold wrap64; omega)
                have HT : Aside0 (r2.take i.toNat ++ [DR] = r2.take (i + 1).toNat) := ⟨by have h0_ := HI.out.1; have h1_ := HIL.out; have h2_ := sv.map_drop_take L l0.length i h0_ (by rw [HLL.out]; omega); rw [HZ0.out] at h2_; rw [← HDR.out]; exact h2_⟩
                exact ⟨wrap64 (i + 1), (by first | rfl | (simp; done) | (simp [*]; done)), ⟨by have := HQ2.out; rw [HW.out]; omega⟩, ⟨by have := HI.out; have := HIL.out; rw [HW.out]; omega⟩, ⟨by rw [HW.out, ← HT.out]; exact SO.out⟩, HB2⟩
            · have c2b : decide (i < (l0.length : Int)) = false := decide_eq_false c2_
              obtain rfl : i = (l0.length : Int) := by have := HI.out; omega
              have n_ : Aside0 (Mx 2 22 wx wk.heap.size (fun _ => True) u19 r2) := ⟨by have h_ := SO.out; rw [Int.toNat_natCast, List.take_of_length_le (by rw [← HZ0.out, List.length_map, HLL.out]; exact Nat.le_refl _)] at h_; exact h_⟩
              clear SO
              have SO := n_
              clear n_ c2_ HQ2 HI
              have HB3 := Aside0.mk (below_step HB.out HB2.out)
              have n_ := Aside0.mk (Kd.S_lower SO.out (below_size HB.out))
              clear SO
              have SO := n_
              clear n_ HB HB2
              have HB := HB3
              clear HB3
              go_wp2
              go_ret2
              exact ⟨_, rfl, (by (with_reducible repeat (first | apply Kd.S_alloc | apply Kd.S_drewN | apply Kd.S_drew)); exact SO.out), (by repeat (first | (with_reducible first | exact HB.out | apply below_alloc | apply pw_below_drewN | apply below_drew1) | exact HB.out))⟩
        | succ n =>
          have hc0 : 0 ≤ c := HC.out.2
          have hc1 : c < (l0.length : Int) := by have := HC.out; omega
          have c1b : decide (c < (l0.length : Int)) = true := decide_eq_true hc1
          have HCD := Aside0.mk (show c < (D : Int) by have := HM.out; have := HD.out; omega)
          have ppc : (0 ≤ c) = True := eq_true (hc0)
          have qqc : (c < (l0.length : Int)) = True := eq_true (hc1)
          have rrc : (c < (D : Int)) = True := eq_true (HCD.out)
          obtain ⟨pv, hpv⟩ : ∃ pv, iv.piv c (n + 1) c L = pv := ⟨_, rfl⟩
          have hrg := iv.piv_range c L (n + 1) c
          rw [hpv] at hrg
          have HPV := Aside0.mk (show c ≤ pv ∧ pv ≤ (l0.length : Int) by have := HC.out; omega)
          have H := HA.out
          clear HA
          unfold sv.slv at H
          rw [hpv] at H
          have HPE := Aside0.mk hpv
          have H' := Aside0.mk H
          have HC0 := Aside0.mk hc0
          have HC1 := Aside0.mk hc1
          clear H hrg hpv hc0 hc1
          go_upto_block 4 with (fail)
          go_cut [10] (fun v10 wc => v10 = .int .i64 pv ∧ Aside0 (Mx 2 22 wc w.heap.size (fun _ => True) (.slice (some ⟨gL, 0, none⟩) l0.length cL) L) ∧ Aside0 (Below w.heap.size w wc))
          case first =>
            go_wp2
            go_loopg [10] 30 (fun kq v10 wr => ∃ (t : Int) (q : Nat), v10 = .int .i64 t ∧ Aside0 (q < kq) ∧ Aside0 ((q : Int) + t = (l0.length : Int) ∧ c ≤ t) ∧ Aside0 (iv.piv c q t L = pv) ∧ Aside0 (Mx 2 22 wr w.heap.size (fun _ => True) (.slice (some ⟨gL, 0, none⟩) l0.length cL) L) ∧ Aside0 (Below w.heap.size w wr))
            case atStart => exact ⟨c, n + 1, (by first | rfl | (simp; done) | (simp [*]; done)), ⟨by have := HM.out; have := HC.out; omega⟩, ⟨by have := HC.out; omega⟩, HPE, ⟨(by (with_reducible repeat (first | apply Kd.S_alloc | apply Kd.S_drewN | apply Kd.S_drew)); exact SL.out)⟩, ⟨(by repeat (first | (with_reducible first | exact HB.out | apply below_alloc | apply pw_below_drewN | apply below_drew1) | exact HB.out))⟩⟩
            case round =>
              clear SL HB
              obtain ⟨t, q, rfl, HQ2, HT, HA, SL, HB⟩ := hrel
              cases gk with
              | zero => exact absurd HQ2.out (Nat.not_lt_zero _)
              | succ k2 =>
              cases q with
              | zero =>
                have c2b : decide (t < (l0.length : Int)) = false := decide_eq_false (by have := HT.out; omega)
                have HA := HA.out
                simp only [iv.piv] at HA
                subst HA
                go_wp2
                go_meet
                case rel => exact ⟨(by first | rfl | (simp; done) | (simp [*]; done)), ⟨(by (with_reducible repeat (first | apply Kd.S_alloc | apply Kd.S_drewN | apply Kd.S_drew)); exact SL.out)⟩, ⟨(by repeat (first | (with_reducible first | exact HB.out | apply below_alloc | apply pw_below_drewN | apply below_drew1) | exact HB.out))⟩⟩
              | succ q =>
                have ht0 : 0 ≤ t := by have := HT.out; have := HC0.out; omega
                have ht1 : t < (l0.length : Int) := by have := HT.out; omega
                have c2b : decide (t < (l0.length : Int)) = true := decide_eq_true ht1
                have ppt : (0 ≤ t) = True := eq_true (ht0)
                have qqt : (t < (l0.length : Int)) = True := eq_true (ht1)
                obtain ⟨grA, crA, hzA, hfA_, hbA_, hkA_, hnA_, hcA_, _⟩ := mx_atm (m := D) SL.out t ht0 ht1 (HSL.out.at _ ht0 ht1) (by have := HM.out; have := HD.out; omega)
                obtain ⟨hvA0, hfA0⟩ := hcA_ c HC0.out HCD.out
                clear hfA_ hbA_ hkA_ hnA_ hcA_
                have HA := HA.out
                unfold iv.piv at HA
                have HT0 := Aside0.mk ht0
                have HT1 := Aside0.mk ht1
                clear ht0 ht1
                by_cases e3 : iv.gt L t c = 0
                · have HA := Aside0.mk ((if_pos e3).symm.trans HA)
                  have c3b0 : (iv.gt L t c == 0) = true := beq_iff_eq.mpr e3
                  have c3b1 : (iv.gt L t c != 0) = false := bne_eq_false_iff_eq.mpr e3
                  clear e3
                  go_wp2
                  go_roundg k2
                  case measure => omega
                  case rel =>
                    have HW := Aside0.mk (show wrap64 (t + 1) = t + 1 by have := HT0.out; have := HT1.out; have := HM.out; unfold wrap64; omega)
                    exact ⟨wrap64 (t + 1), q, (by first | rfl | (simp; done) | (simp [*]; done)), ⟨by have := HQ2.out; omega⟩, ⟨by have := HT.out; rw [HW.out]; omega⟩, ⟨by rw [HW.out]; exact HA.out⟩, ⟨(by (with_reducible repeat (first | apply Kd.S_alloc | apply Kd.S_drewN | apply Kd.S_drew)); exact SL.out)⟩, ⟨(by repeat (first | (with_reducible first | exact HB.out | apply below_alloc | apply pw_below_drewN | apply below_drew1) | exact HB.out))⟩⟩
                · have HA := (if_neg e3).symm.trans HA
                  have c3b0 : (iv.gt L t c == 0) = false := beq_eq_false_iff_ne.mpr e3
                  have c3b1 : (iv.gt L t c != 0) = true := bne_iff_ne.mpr e3
                  clear e3
                  subst HA
                  go_wp2
                  go_meet
                  case rel => exact ⟨(by first | rfl | (simp; done) | (simp [*]; done)), ⟨(by (with_reducible repeat (first | apply Kd.S_alloc | apply Kd.S_drewN | apply Kd.S_drew)); exact SL.out)⟩, ⟨(by repeat (first | (with_reducible first | exact HB.out | apply below_alloc | apply pw_below_drewN | apply below_drew1) | exact HB.out))⟩⟩
          case rest =>
            clear SL HB
            obtain ⟨rfl, SL, HB⟩ := hcut
            have H := H'.out
            clear H'
            by_cases e1 : pv = (l0.length : Int)
            · rw [if_pos e1, Option.some.injEq, Prod.mk.injEq] at H
              obtain ⟨rfl, rfl⟩ := H
              have c4b0 : (pv == (l0.length : Int)) = true := beq_iff_eq.mpr e1
              have c4b1 : (pv != (l0.length : Int)) = false := bne_eq_false_iff_eq.mpr e1
              clear e1
              go_wp2
              go_ret2
              exact ⟨_, rfl, Kd.S_nil _ _ _ _ _, (by repeat (first | (with_reducible first | exact HB.out | apply below_alloc | apply pw_below_drewN | apply below_drew1) | exact HB.out))⟩
            · rw [if_neg e1] at H
              have c4b0 : (pv == (l0.length : Int)) = false := beq_eq_false_iff_ne.mpr e1
              have c4b1 : (pv != (l0.length : Int)) = true := bne_iff_ne.mpr e1
              have HP1 := Aside0.mk (show pv < (l0.length : Int) by have := HPV.out; omega)
              clear e1
              have H' := Aside0.mk H
              clear H
              go_upto_if 70 with (fail)
              go_cut [6] (fun v6 wd => ∃ (L1 : List (List Int)) (p1 : Int), v6 = .int .i64 p1 ∧ Aside0 (sv.slv2 (fun x => spec_l09Inverse.f k x) l0.length (sv.slv (fun x => spec_l09Inverse.f k x) l0.length n) c L1 p1 = some (r1, r2)) ∧ Aside0 (sv.Rq l0.length D L1) ∧ Aside0 (Mx 2 22 wd w.heap.size (fun _ => True) (.slice (some ⟨gL, 0, none⟩) l0.length cL) L1) ∧ Aside0 (Below w.heap.size w wd))
              case first =>
                have H := H'.out
                clear H'
                by_cases e2 : pv = c
                · rw [if_pos e2] at H
                  have c5b0 : (pv == c) = true := beq_iff_eq.mpr e2
                  have c5b1 : (pv != c) = false := bne_eq_false_iff_eq.mpr e2
                  clear e2
                  have H' := Aside0.mk H
                  clear H
                  go_wp2
                  go_meet
                  case rel => exact ⟨L, p, (by first | rfl | (simp; done) | (simp [*]; done)), H', HSL, ⟨(by (with_reducible repeat (first | apply Kd.S_alloc | apply Kd.S_drewN | apply Kd.S_drew)); exact SL.out)⟩, ⟨(by repeat (first | (with_reducible first | exact HB.out | apply below_alloc | apply pw_below_drewN | apply below_drew1) | exact HB.out))⟩⟩
                · rw [if_neg e2] at H
                  have c5b0 : (pv == c) = false := beq_eq_false_iff_ne.mpr e2
                  have c5b1 : (pv != c) = true := bne_iff_ne.mpr e2
                  have HNE := Aside0.mk (show pv.toNat ≠ c.toNat by have := HC0.out; have := HPV.out; omega)
                  clear e2
                  have H' := Aside0.mk H
                  clear H
                  have ppv : (0 ≤ pv) = True := eq_true ((by have := HC0.out; have := HPV.out; omega))
                  have qqv : (pv < (l0.length : Int)) = True := eq_true (HP1.out)
                  obtain ⟨vi, vj, hza, hzc, hfa, hfc, hG, hz2, hf2, hsw⟩ := mx_swap SL.out pv.toNat c.toNat (by have := HC0.out; have := HPV.out; have := HP1.out; omega) (by have := HC0.out; have := HC1.out; omega) HNE.out
                  have HSW := Aside0.mk hsw
                  clear hG hsw
                  obtain ⟨grvi, crvi, hx_, _⟩ := mx_atm (m := D) SL.out pv (by have := HC0.out; have := HPV.out; omega) HP1.out (HSL.out.at _ (by have := HC0.out; have := HPV.out; omega) HP1.out) (by have := HM.out; have := HD.out; omega)
                  have e_ := Option.some.inj (hza.symm.trans hx_)
                  subst e_
                  clear hx_
                  obtain ⟨grvj, crvj, hx_, _⟩ := mx_atm (m := D) SL.out c HC0.out HC1.out (HSL.out.at _ HC0.out HC1.out) (by have := HM.out; have := HD.out; omega)
                  have e_ := Option.some.inj (hzc.symm.trans hx_)
                  subst e_
                  clear hx_
                  go_wp2_with (first | ((with_reducible refine gate_callee (f := 40) rfl ?_); refine goesL_ (some 88) rfl rfl Try.func40 (by kernel_rfl) rfl #[.int .i64 (wrap64 (-p))] rfl (by (try simp only [List.map_toArray, List.map_cons, List.map_nil]); first | done | rfl) ?_; (with_reducible refine (spec_l09Mod.calls (wrap64 (-p)) (iv.inF (wrap64 (-p))) _ rfl).mono ?_); rintro e w' ⟨rfl, ⟨nd, rfl⟩⟩; refine ⟨_, rfl, ?_⟩))
                  go_meet
                  case rel => exact ⟨iv.swp L pv c, iv.inF (wrap64 (-p)), (by first | rfl | (simp; done) | (simp [*]; done)), H', ⟨HSL.out.swp _ _ (by have := HC0.out; have := HPV.out; omega) HP1.out HC0.out HC1.out⟩, ⟨(by (with_reducible repeat (first | apply Kd.S_alloc | apply Kd.S_drewN | apply Kd.S_drew)); exact HSW.out)⟩, ⟨(by repeat (first | (with_reducible first | exact HB.out | refine below_set ?_ HGL.out | apply below_alloc | apply pw_below_drewN | apply below_drew1) | exact HB.out))⟩⟩
              case rest =>
                clear SL HB H' HSL
                obtain ⟨L1, p1, rfl, HA, HSL, SL, HB⟩ := hcut
                obtain ⟨wd, rfl⟩ : ∃ x, x = wc := ⟨_, rfl⟩
                have H := HA.out
                clear HA
                unfold sv.slv2 at H
                obtain ⟨iv_, A2_, H1⟩ := Option.bind_eq_some_iff.mp H
                clear H
                have H := H1
                clear H1
                have A2 := Aside0.mk A2_
                clear A2_
                obtain ⟨OW, hOW⟩ : ∃ x, sv.scl iv_ (L1.getD c.toNat []) = x := ⟨_, rfl⟩
                rw [hOW] at H
                obtain ⟨Z, hZ⟩ : ∃ x, sv.rw2 c OW l0.length 0 (L1.set c.toNat OW) = x := ⟨_, rfl⟩
                rw [hZ] at H
                have H' := Aside0.mk H
                have HZ := Aside0.mk hZ
                have HOL : Aside0 (OW.length = D) := ⟨by rw [← hOW, sv.scl_len]; exact HSL.out.at c HC0.out HC1.out⟩
                have HOW := Aside0.mk hOW
                clear H hOW hZ
                have HB2 := Aside0.mk (Below.refl wd.heap.size wd)
                obtain ⟨grA, crA, hzA, hfA_, hbA_, hkA_, hnA_, hcA_, _⟩ := mx_atm (m := D) SL.out c HC0.out HC1.out (HSL.out.at _ HC0.out HC1.out) (by have := HM.out; have := HD.out; omega)
                obtain ⟨hvA0, hfA0⟩ := hcA_ c HC0.out HCD.out
                clear hfA_ hbA_ hkA_ hnA_ hcA_
                go_wp2_with (first | ((with_reducible refine gate_callee (f := 55) rfl ?_); refine goesL_ (some 106) rfl rfl Try.func55 (by kernel_rfl) rfl #[.int .i64 (iv.gt L1 c c)] rfl (by (try simp only [List.map_toArray, List.map_cons, List.map_nil]); first | done | rfl) ?_; (with_reducible refine (spec_l09Inverse.calls k (iv.gt L1 c c) iv_ _ A2.out).mono ?_); rintro e w' ⟨rfl, ⟨nd, rfl⟩⟩; refine ⟨_, rfl, ?_⟩) | ((with_reducible refine gate_dst (N := 107) rfl ?_); refine Kd.R_lit (Kd.int .i64) _ 2 ?hg (N := 107) ?hd (xs := ([] : List Int)) (inner := []) (ok := fun _ => True) (okp := fun _ => True) ?hr ?hp (fun _ hk => hk) trivial (Below.refl _ _) (Nat.le_refl _) (by simp) ?_; (case hd => rfl); (case hg => rfl); (case hr => first | (go_simp; done) | (go_simp; rfl)); (case hp => exact (Reps.none _ _)); intro v107 w12 ho hb hg_ hnew_; clear hg_ hnew_; have RO := Aside0.mk (Kd.R_lower ho (below_size (by repeat (first | (with_reducible first | exact HB2.out | apply below_alloc | apply pw_below_drewN | apply below_drew1) | exact HB2.out)))); have n_ := Aside0.mk (below_step (by repeat (first | (with_reducible first | exact HB2.out | apply below_alloc | apply pw_below_drewN | apply below_drew1) | exact HB2.out)) hb); clear HB2; have HB2 := n_; clear n_; clear hb ho))
                go_loopg [13, 14] 60 (fun kq v13 v14 wr => ∃ (y : Int) (q : Nat), v14 = .int .i64 y ∧ Aside0 (q < kq) ∧ Aside0 ((q : Int) + y = (D : Int) ∧ 0 ≤ y) ∧ Aside0 (Kd.R (Kd.int .i64) 2 wr wd.heap.size (fun _ => True) v13 (OW.take y.toNat)) ∧ Aside0 (Below wd.heap.size wd wr))
                case atStart => exact ⟨0, D, (by first | rfl | (simp; done) | (simp [*]; done)), ⟨by have := HM.out; have := HD.out; omega⟩, ⟨by omega⟩, ⟨(by (with_reducible repeat (first | apply Kd.R_alloc | apply Kd.R_drewN | apply Kd.R_drew)); exact RO.out)⟩, ⟨(by repeat (first | (with_reducible first | exact HB2.out | apply below_alloc | apply pw_below_drewN | apply below_drew1) | exact HB2.out))⟩⟩
                case round =>
                  clear RO HB2 hzA hvA0 hfA0
                  obtain ⟨y, q, rfl, HQ2, HY, RO, HB2⟩ := hrel
                  cases gk with
                  | zero => exact absurd HQ2.out (Nat.not_lt_zero _)
                  | succ k2 =>
                  cases q with
                  | succ q =>
                    have h0 : 0 ≤ y := HY.out.2
                    have h1 : y < (D : Int) := by have := HY.out; omega
                    have cyb : decide (y < wrap64 (2 * (l0.length : Int))) = true := decide_eq_true (by rw [HDW.out]; exact h1)
                    have ppy : (0 ≤ y) = True := eq_true h0
                    have rry : (y < (D : Int)) = True := eq_true (h1)
                    have HY0 := Aside0.mk h0
                    have HY1 := Aside0.mk h1
                    clear h0 h1
                    obtain ⟨grA, crA, hzA, hfA_, hbA_, hkA_, hnA_, hcA_, _⟩ := mx_atm (m := D) (Kd.S_below SL.out HB2.out) c HC0.out HC1.out (HSL.out.at _ HC0.out HC1.out) (by have := HM.out; have := HD.out; omega)
                    obtain ⟨hvA0, hfA0⟩ := hcA_ y HY0.out HY1.out
                    clear hfA_ hbA_ hkA_ hnA_ hcA_
                    go_wp2_with (first | ((with_reducible refine gate_builtin (b := .append) (xs := #[.tmp 114, .tmp 125]) rfl ?_); at_builtin; refine Kd.R_append (Kd.int .i64) (w0 := wd) wd.heap.size rfl (.tmp 114) (.tmp 125) 22 2 (.int .i64 0) 8 rfl Try.underlying22 info2 rfl (by decide) (by omega) (u13) (OW.take y.toNat) (Int.tmod (wrap64 (iv.gt L1 c y * iv_)) 10007) [.int .i64 (Int.tmod (wrap64 (iv.gt L1 c y * iv_)) 10007)] (fun _ => True) (fun _ => False) rfl rfl ?aP (fun _ hk => hk.elim) ?aF ?aO ?aB ?aS ?aL ?_; (case aP => exact rfl); (case aB => exact (by repeat (first | (with_reducible first | exact HB2.out | apply below_alloc | apply pw_below_drewN | apply below_drew1) | exact HB2.out))); (case aF => exact (fun _ _ => trivial)); (case aO => exact (by (with_reducible repeat (first | apply Kd.R_alloc | apply Kd.R_drewN | apply Kd.R_drew)); exact RO.out)); (case aS => exact (below_size (by repeat (first | (with_reducible first | exact HB2.out | apply below_alloc | apply pw_below_drewN | apply below_drew1) | exact HB2.out)))); (case aL => rw [List.length_take]; have := HM.out; have := HD.out; have := HY0.out; have := HY1.out; omega); intro v13_ w13 ho hb hg hat; clear HB2 RO; have HB2 := Aside0.mk hb; have RO := Aside0.mk ho; clear ho hb hg hat))
                    go_roundg k2
                    case measure => omega
                    case rel =>
                      have HW := Aside0.mk (show wrap64 (y + 1) = y + 1 by have := HY0.out; have := HY1.out; have := HM.out; have := HD.out; unfold wrap64; omega)
                      have HT : Aside0 (OW.take y.toNat ++ [Int.tmod (wrap64 (iv.gt L1 c y * iv_)) 10007] = OW.take (y + 1).toNat) := ⟨by have h_ := sv.scl_take iv_ (L1.getD c.toNat []) y HY0.out (by have e_ := HSL.out.at c HC0.out HC1.out; have := HY0.out; have := HY1.out; omega); rw [HOW.out] at h_; exact h_⟩
                      exact ⟨wrap64 (y + 1), q, (by first | rfl | (simp; done) | (simp [*]; done)), ⟨by have := HQ2.out; omega⟩, ⟨by have := HY.out; rw [HW.out]; omega⟩, ⟨by rw [HW.out, ← HT.out]; exact (by (with_reducible repeat (first | apply Kd.R_alloc | apply Kd.R_drewN | apply Kd.R_drew)); exact RO.out)⟩, ⟨(by repeat (first | (with_reducible first | exact HB2.out | apply below_alloc | apply pw_below_drewN | apply below_drew1) | exact HB2.out))⟩⟩
                  | zero =>
                    have cyb : decide (y < wrap64 (2 * (l0.length : Int))) = false := decide_eq_false (by rw [HDW.out]; have := HY.out; omega)
                    obtain rfl : y = (D : Int) := by have := HY.out; omega
                    have n_ : Aside0 (Kd.R (Kd.int .i64) 2 wr wd.heap.size (fun _ => True) u13 OW) := ⟨by have h_ := RO.out; rw [Int.toNat_natCast, List.take_of_length_le (by rw [HOL.out]; exact Nat.le_refl _)] at h_; exact h_⟩
                    clear RO
                    have RO := n_
                    clear n_
                    obtain ⟨gO, cO, e_, _, _, _⟩ := Kd.R_form RO.out (by rw [HOL.out]; have := HM.out; have := HD.out; omega)
                    rw [HOL.out] at e_
                    subst e_
                    have n_ := Aside0.mk (Kd.S_below (Kd.S_mono (ok' := fun k_ => True ∧ ¬ (wd.heap.size ≤ k_)) (Kd.S_bound SL.out) (fun k_ hk_ => ⟨trivial, Nat.not_le.2 hk_.2.2.1⟩)) HB2.out)
                    clear SL
                    have SL := n_
                    clear n_
                    have HP := mx_put (okg := fun k_ => wd.heap.size ≤ k_) (ok := fun _ => True) SL.out c HC0.out HC1.out (Kd.R_lower (Kd.R_mono (ok' := fun k_ => wd.heap.size ≤ k_) (Kd.R_bound RO.out) (fun k_ hk_ => hk_.2.1)) (below_size HB.out)) (fun _ _ => trivial) (mx_ok SL.out).2
                    obtain ⟨gr_, cr_, hzp, hfp, _, _, _, _, _⟩ := mx_atm (m := D) SL.out c HC0.out HC1.out (HSL.out.at _ HC0.out HC1.out) (by have := HM.out; have := HD.out; omega)
                    obtain ⟨cells_, hbk⟩ := mx_block SL.out (by have := HM.out; omega)
                    have HBK := Aside0.mk hbk
                    have HP := Aside0.mk HP
                    clear hbk
                    go_wp2
                    have n0_ : Aside0 (Mx 2 22 (World.setCell wr ⟨gL, (c).toNat, none⟩ (.slice (some ⟨gO, 0, none⟩) D cO : Value)) w.heap.size (fun _ => True) (.slice (some ⟨gL, 0, none⟩) l0.length cL) (L1.set (c).toNat OW)) := HP
                    have n1_ : Aside0 (World.cell? (World.setCell wr ⟨gL, (c).toNat, none⟩ (.slice (some ⟨gO, 0, none⟩) D cO : Value)) ⟨gL, c.toNat, none⟩ = some (.slice (some ⟨gO, 0, none⟩) D cO : Value)) := ⟨blk_self HBK.out hzp⟩
                    have n2_ : Aside0 (Below w.heap.size w (World.setCell wr ⟨gL, (c).toNat, none⟩ (.slice (some ⟨gO, 0, none⟩) D cO : Value))) := ⟨below_set (below_step HB.out HB2.out) HGL.out⟩
                    clear SL HB HB2 hzp hfp HBK HP RO
                    (try clear HO)
                    generalize (World.setCell wr ⟨gL, (c).toNat, none⟩ (.slice (some ⟨gO, 0, none⟩) D cO : Value)) = w7 at n0_ n1_ n2_ ⊢
                    have SL := n0_
                    have HO := n1_
                    have HB := n2_
                    clear n0_ n1_ n2_
                    have n_ : Aside0 (sv.Rq l0.length D (L1.set c.toNat OW)) := ⟨HSL.out.set c.toNat (by have := HC0.out; have := HC1.out; omega) HOL.out⟩
                    have HLC : Aside0 ((L1.set c.toNat OW).getD c.toNat [] = OW) := ⟨by rw [iv.getD_set L1 c.toNat c.toNat _ (by rw [HSL.out.1]; have := HC0.out; have := HC1.out; omega), if_pos rfl]⟩
                    clear HSL
                    have HSL := n_
                    clear n_ HQ2 HY cyb HOW A2
                    go_loopg [15] 30 (fun kq v15 wq => ∃ (Lb : List (List Int)) (x : Int) (q : Nat), v15 = .int .i64 x ∧ Aside0 (q < kq) ∧ Aside0 ((q : Int) + x = (l0.length : Int) ∧ 0 ≤ x) ∧ Aside0 (sv.rw2 c OW q x Lb = Z) ∧ Aside0 (sv.Rq l0.length D Lb) ∧ Aside0 (Lb.getD c.toNat [] = OW) ∧ Aside0 (World.cell? wq ⟨gL, c.toNat, none⟩ = some (.slice (some ⟨gO, 0, none⟩) D cO : Value)) ∧ Aside0 (Mx 2 22 wq w.heap.size (fun _ => True) (.slice (some ⟨gL, 0, none⟩) l0.length cL) Lb) ∧ Aside0 (Below w.heap.size w wq))
                    case atStart => exact ⟨_, 0, l0.length, rfl, ⟨by have := HM.out; omega⟩, ⟨by omega⟩, HZ, HSL, HLC, HO, ⟨(by (with_reducible repeat (first | apply Kd.S_alloc | apply Kd.S_drewN | apply Kd.S_drew)); exact SL.out)⟩, ⟨(by repeat (first | (with_reducible first | exact HB.out | apply below_alloc | apply pw_below_drewN | apply below_drew1) | exact HB.out))⟩⟩
                    case round =>
                      clear SL HB HSL HLC HO HZ
                      obtain ⟨Lb, x, q, rfl, HQ3, HX, HA, HSL, HLC, HO, SL, HB⟩ := hrel
                      obtain ⟨wq, rfl⟩ : ∃ x, x = wr := ⟨_, rfl⟩
                      cases gk with
                      | zero => exact absurd HQ3.out (Nat.not_lt_zero _)
                      | succ k3 =>
                      cases q with
                      | zero =>
                        have cxb : decide (x < (l0.length : Int)) = false := decide_eq_false (by have := HX.out; omega)
                        have e_ := HA.out
                        simp only [sv.rw2] at e_
                        subst e_
                        clear HA
                        go_wp2
                        go_roundg k1
                        case measure => omega
                        case rel =>
                          have HW := Aside0.mk (show wrap64 (c + 1) = c + 1 by have := HC0.out; have := HC1.out; have := HM.out; unfold wrap64; omega)
                          exact ⟨Lb, _, wrap64 (c + 1), n, rfl, (by first | rfl | (simp; done) | (simp [*]; done)), ⟨by have := HQ.out; omega⟩, ⟨by have := HC.out; rw [HW.out]; omega⟩, ⟨by rw [HW.out]; exact H'.out⟩, HSL, ⟨(by (with_reducible repeat (first | apply Kd.S_alloc | apply Kd.S_drewN | apply Kd.S_drew)); exact SL.out)⟩, ⟨(by repeat (first | (with_reducible first | exact HB.out | apply below_alloc | apply pw_below_drewN | apply below_drew1) | exact HB.out))⟩⟩
                      | succ q =>
                        have hx0 : 0 ≤ x := HX.out.2
                        have hx1 : x < (l0.length : Int) := by have := HX.out; omega
                        have cxb : decide (x < (l0.length : Int)) = true := decide_eq_true hx1
                        have ppx : (0 ≤ x) = True := eq_true (hx0)
                        have qqx : (x < (l0.length : Int)) = True := eq_true (hx1)
                        obtain ⟨grA, crA, hzA, hfA_, hbA_, hkA_, hnA_, hcA_, _⟩ := mx_atm (m := D) SL.out x hx0 hx1 (HSL.out.at _ hx0 hx1) (by have := HM.out; have := HD.out; omega)
                        obtain ⟨hvA0, hfA0⟩ := hcA_ c HC0.out HCD.out
                        clear hfA_ hbA_ hkA_ hnA_ hcA_
                        have HX0 := Aside0.mk hx0
                        have HX1 := Aside0.mk hx1
                        clear hx0 hx1
                        have HA := HA.out
                        unfold sv.rw2 at HA
                        have HW := Aside0.mk (show wrap64 (x + 1) = x + 1 by have := HX0.out; have := HX1.out; have := HM.out; unfold wrap64; omega)
                        by_cases e1 : x = c
                        · have HA := Aside0.mk ((if_pos e1).symm.trans HA)
                          have c6b0 : (x == c) = true := beq_iff_eq.mpr e1
                          have c6b1 : (x != c) = false := bne_eq_false_iff_eq.mpr e1
                          clear e1
                          go_wp2
                          go_roundg k3
                          case measure => omega
                          case rel => exact ⟨Lb, wrap64 (x + 1), q, (by first | rfl | (simp; done) | (simp [*]; done)), ⟨by have := HQ3.out; omega⟩, ⟨by have := HX.out; rw [HW.out]; omega⟩, ⟨by rw [HW.out]; exact HA.out⟩, HSL, HLC, ⟨HO.out⟩, ⟨(by (with_reducible repeat (first | apply Kd.S_alloc | apply Kd.S_drewN | apply Kd.S_drew)); exact SL.out)⟩, ⟨(by repeat (first | (with_reducible first | exact HB.out | apply below_alloc | apply pw_below_drewN | apply below_drew1) | exact HB.out))⟩⟩
                        · have HA := (if_neg e1).symm.trans HA
                          have c6b0 : (x == c) = false := beq_eq_false_iff_ne.mpr e1
                          have c6b1 : (x != c) = true := bne_iff_ne.mpr e1
                          have HXC := Aside0.mk (show x.toNat ≠ c.toNat by have := HX0.out; have := HC0.out; omega)
                          clear e1
                          by_cases e2 : iv.gt Lb x c = 0
                          · have HA := Aside0.mk ((if_pos e2).symm.trans HA)
                            have c7b0 : (iv.gt Lb x c == 0) = true := beq_iff_eq.mpr e2
                            have c7b1 : (iv.gt Lb x c != 0) = false := bne_eq_false_iff_eq.mpr e2
                            clear e2
                            go_wp2
                            go_roundg k3
                            case measure => omega
                            case rel => exact ⟨Lb, wrap64 (x + 1), q, (by first | rfl | (simp; done) | (simp [*]; done)), ⟨by have := HQ3.out; omega⟩, ⟨by have := HX.out; rw [HW.out]; omega⟩, ⟨by rw [HW.out]; exact HA.out⟩, HSL, HLC, ⟨HO.out⟩, ⟨(by (with_reducible repeat (first | apply Kd.S_alloc | apply Kd.S_drewN | apply Kd.S_drew)); exact SL.out)⟩, ⟨(by repeat (first | (with_reducible first | exact HB.out | apply below_alloc | apply pw_below_drewN | apply below_drew1) | exact HB.out))⟩⟩
                          · have HA := (if_neg e2).symm.trans HA
                            have c7b0 : (iv.gt Lb x c == 0) = false := beq_eq_false_iff_ne.mpr e2
                            have c7b1 : (iv.gt Lb x c != 0) = true := bne_iff_ne.mpr e2
                            clear e2
                            obtain ⟨NX, hNX⟩ : ∃ z, sv.elr (iv.gt Lb x c) (Lb.getD x.toNat []) OW = z := ⟨_, rfl⟩
                            rw [hNX] at HA
                            have HNL : Aside0 (NX.length = D) := ⟨by have e_ := HSL.out.at x HX0.out HX1.out; rw [← hNX, sv.elr_len _ _ _ (by rw [e_, HOL.out])]; exact e_⟩
                            have HNX := Aside0.mk hNX
                            have HA := Aside0.mk HA
                            clear hNX
                            have HB2 := Aside0.mk (Below.refl wq.heap.size wq)
                            go_wp2_with (first | ((with_reducible refine gate_dst (N := 150) rfl ?_); refine Kd.R_lit (Kd.int .i64) _ 2 ?hg (N := 150) ?hd (xs := ([] : List Int)) (inner := []) (ok := fun _ => True) (okp := fun _ => True) ?hr ?hp (fun _ hk => hk) trivial (Below.refl _ _) (Nat.le_refl _) (by simp) ?_; (case hd => rfl); (case hg => rfl); (case hr => first | (go_simp; done) | (go_simp; rfl)); (case hp => exact (Reps.none _ _)); intro v150 w12 ho hb hg_ hnew_; clear hg_ hnew_; have RN := Aside0.mk (Kd.R_lower ho (below_size (by repeat (first | (with_reducible first | exact HB2.out | apply below_alloc | apply pw_below_drewN | apply below_drew1) | exact HB2.out)))); have n_ := Aside0.mk (below_step (by repeat (first | (with_reducible first | exact HB2.out | apply below_alloc | apply pw_below_drewN | apply below_drew1) | exact HB2.out)) hb); clear HB2; have HB2 := n_; clear n_; clear hb ho))
                            go_loopg [17, 18] 60 (fun kq v17 v18 wr => ∃ (y : Int) (s : Nat), v18 = .int .i64 y ∧ Aside0 (s < kq) ∧ Aside0 ((s : Int) + y = (D : Int) ∧ 0 ≤ y) ∧ Aside0 (Kd.R (Kd.int .i64) 2 wr wq.heap.size (fun _ => True) v17 (NX.take y.toNat)) ∧ Aside0 (Below wq.heap.size wq wr))
                            case atStart => exact ⟨0, D, (by first | rfl | (simp; done) | (simp [*]; done)), ⟨by have := HM.out; have := HD.out; omega⟩, ⟨by omega⟩, ⟨(by (with_reducible repeat (first | apply Kd.R_alloc | apply Kd.R_drewN | apply Kd.R_drew)); exact RN.out)⟩, ⟨(by repeat (first | (with_reducible first | exact HB2.out | apply below_alloc | apply pw_below_drewN | apply below_drew1) | exact HB2.out))⟩⟩
                            case round =>
                              clear RN HB2 hzA hvA0 hfA0
                              obtain ⟨y, s, rfl, HQ4, HY, RN, HB2⟩ := hrel
                              cases gk with
                              | zero => exact absurd HQ4.out (Nat.not_lt_zero _)
                              | succ k4 =>
                              cases s with
                              | zero =>
                                have cyb : decide (y < wrap64 (2 * (l0.length : Int))) = false := decide_eq_false (by rw [HDW.out]; have := HY.out; omega)
                                obtain rfl : y = (D : Int) := by have := HY.out; omega
                                have n_ : Aside0 (Kd.R (Kd.int .i64) 2 wr wq.heap.size (fun _ => True) u17 NX) := ⟨by have h_ := RN.out; rw [Int.toNat_natCast, List.take_of_length_le (by rw [HNL.out]; exact Nat.le_refl _)] at h_; exact h_⟩
                                clear RN
                                have RN := n_
                                clear n_
                                obtain ⟨gN, cN, e_, _, _, _⟩ := Kd.R_form RN.out (by rw [HNL.out]; have := HM.out; have := HD.out; omega)
                                rw [HNL.out] at e_
                                subst e_
                                have n_ := Aside0.mk (Kd.S_below (Kd.S_mono (ok' := fun k_ => True ∧ ¬ (wq.heap.size ≤ k_)) (Kd.S_bound SL.out) (fun k_ hk_ => ⟨trivial, Nat.not_le.2 hk_.2.2.1⟩)) HB2.out)
                                clear SL
                                have SL := n_
                                clear n_
                                have HP := mx_put (okg := fun k_ => wq.heap.size ≤ k_) (ok := fun _ => True) SL.out x HX0.out HX1.out (Kd.R_lower (Kd.R_mono (ok' := fun k_ => wq.heap.size ≤ k_) (Kd.R_bound RN.out) (fun k_ hk_ => hk_.2.1)) (below_size HB.out)) (fun _ _ => trivial) (mx_ok SL.out).2
                                obtain ⟨gr_, cr_, hzp, hfp, _, _, _, _, _⟩ := mx_atm (m := D) SL.out x HX0.out HX1.out (HSL.out.at _ HX0.out HX1.out) (by have := HM.out; have := HD.out; omega)
                                obtain ⟨cells_, hbk⟩ := mx_block SL.out (by have := HM.out; omega)
                                have HBK := Aside0.mk hbk
                                have HP := Aside0.mk HP
                                clear hbk
                                go_wp2
                                have n0_ : Aside0 (Mx 2 22 (World.setCell wr ⟨gL, (x).toNat, none⟩ (.slice (some ⟨gN, 0, none⟩) D cN : Value)) w.heap.size (fun _ => True) (.slice (some ⟨gL, 0, none⟩) l0.length cL) (Lb.set (x).toNat NX)) := HP
                                have n1_ : Aside0 (World.cell? (World.setCell wr ⟨gL, (x).toNat, none⟩ (.slice (some ⟨gN, 0, none⟩) D cN : Value)) ⟨gL, c.toNat, none⟩ = some (.slice (some ⟨gO, 0, none⟩) D cO : Value)) := ⟨blk_other HBK.out HXC.out ((HB2.out.cell (World.block_lt_of_cell? wq _ HO.out)).trans HO.out)⟩
                                have n2_ : Aside0 (Below w.heap.size w (World.setCell wr ⟨gL, (x).toNat, none⟩ (.slice (some ⟨gN, 0, none⟩) D cN : Value))) := ⟨below_set (below_step HB.out HB2.out) HGL.out⟩
                                clear SL HB HB2 hzp hfp HBK HP RN
                                (try clear HO)
                                generalize (World.setCell wr ⟨gL, (x).toNat, none⟩ (.slice (some ⟨gN, 0, none⟩) D cN : Value)) = w7 at n0_ n1_ n2_ ⊢
                                have SL := n0_
                                have HO := n1_
                                have HB := n2_
                                clear n0_ n1_ n2_
                                go_roundg k3
                                case measure => omega
                                case rel => exact ⟨(Lb.set x.toNat NX), wrap64 (x + 1), q, (by first | rfl | (simp; done) | (simp [*]; done)), ⟨by have := HQ3.out; omega⟩, ⟨by have := HX.out; rw [HW.out]; omega⟩, ⟨by rw [HW.out]; exact HA.out⟩, ⟨HSL.out.set x.toNat (by have := HX0.out; have := HX1.out; omega) HNL.out⟩, ⟨by rw [iv.getD_set Lb x.toNat c.toNat _ (by rw [HSL.out.1]; have := HX0.out; have := HX1.out; omega), if_neg HXC.out]; exact HLC.out⟩, ⟨HO.out⟩, ⟨(by (with_reducible repeat (first | apply Kd.S_alloc | apply Kd.S_drewN | apply Kd.S_drew)); exact SL.out)⟩, ⟨(by repeat (first | (with_reducible first | exact HB.out | apply below_alloc | apply pw_below_drewN | apply below_drew1) | exact HB.out))⟩⟩
                              | succ s =>
                                have h0 : 0 ≤ y := HY.out.2
                                have h1 : y < (D : Int) := by have := HY.out; omega
                                have cyb : decide (y < wrap64 (2 * (l0.length : Int))) = true := decide_eq_true (by rw [HDW.out]; exact h1)
                                have ppy : (0 ≤ y) = True := eq_true h0
                                have rry : (y < (D : Int)) = True := eq_true (h1)
                                have HY0 := Aside0.mk h0
                                have HY1 := Aside0.mk h1
                                clear h0 h1
                                try go_wp2
                                (first | (rw [drewN_self wr]; generalize hq_ : World.drewN wr _ = w6) | (rw [drew_self wr]; generalize hq1_ : World.drew wr = w6; have hq_ : World.drewN wr 1 = w6 := hq1_; clear hq1_) | (rw [show wr = World.drewN wr 0 from rfl]; generalize hq_ : World.drewN wr 0 = w6))
                                have n_ := Aside0.mk (Kd.R_at hq_ RN.out); clear RN; have RN := n_; clear n_
                                have n_ := Aside0.mk (ar_below_at hq_ HB2.out); clear HB2; have HB2 := n_; clear n_
                                clear hq_
                                have n_ := Aside0.mk (Kd.R_drew RN.out); clear RN; have RN := n_; clear n_
                                have n_ := Aside0.mk (below_drew1 HB2.out); clear HB2; have HB2 := n_; clear n_
                                obtain ⟨grA, crA, hzA, hfA_, hbA_, hkA_, hnA_, hcA_, _⟩ := mx_atm (m := D) (Kd.S_below SL.out HB2.out) x HX0.out HX1.out (HSL.out.at _ HX0.out HX1.out) (by have := HM.out; have := HD.out; omega)
                                obtain ⟨hvA0, hfA0⟩ := hcA_ y HY0.out HY1.out
                                clear hfA_ hbA_ hkA_ hnA_ hcA_
                                obtain ⟨grB, crB, hzB, hfB_, hbB_, hkB_, hnB_, hcB_, _⟩ := mx_atm (m := D) (Kd.S_below SL.out HB2.out) c HC0.out HC1.out (HSL.out.at _ HC0.out HC1.out) (by have := HM.out; have := HD.out; omega)
                                obtain ⟨hvB0, hfB0⟩ := hcB_ y HY0.out HY1.out
                                clear hfB_ hbB_ hkB_ hnB_ hcB_
                                have e_ := Option.some.inj (hzB.symm.trans ((HB2.out.cell (World.block_lt_of_cell? wq _ HO.out)).trans HO.out))
                                cases e_
                                clear hzB hfA0 hfB0
                                refine start_ (n := 19) (S := fun w' => w'.cell? ⟨gL, (x).toNat, none⟩ = some (.slice (some ⟨grA, 0, none⟩) D crA) ∧ w'.cell? ⟨grA, (y).toNat, none⟩ = some (.int .i64 (iv.gt Lb x y)) ∧ w'.cell? ⟨gO, (y).toNat, none⟩ = some (.int .i64 (iv.gt Lb c y))) (ds := [15, 16, 17]) #[false, false, false, false, false, false, false, false, false, false, false, false, false, false, false, false, false, false, false] (by kernel_rfl) rfl rfl ⟨hzA, hvA0, hvB0⟩ (fun hHeld => ?_)
                                refine with_tabW spec_l09Solve.tab38 spec_l09Solve.bits38 (fun HT_ HW_ => ?_)
                                generalize w6.drew = w7 at RN HB2 hzA hvA0 hvB0 hHeld ⊢
                                refine pure_ (i := 0) (N := some 157) (v := ?_) (a' := ?_) #[true, false, false, false, false, false, false, false, false, false, false, false, false, false, false, false, false, false, false] rfl rfl (any_of HT_.out (by kernel_rfl)) (fun _ _ _ h => h) (Or.inl ⟨by rfl, ?_⟩) ?_ ?_
                                rotate_left
                                · intro w'
                                  go_simp
                                  with_reducible rfl
                                rotate_left
                                · simp only [Act.put, List.setIfInBounds_toArray, List.set_cons_zero, List.set_cons_succ, i64_w, i32_w]
                                  rfl
                                refine pure_ (i := 1) (N := some 158) (v := ?_) (a' := ?_) #[true, true, false, false, false, false, false, false, false, false, false, false, false, false, false, false, false, false, false] rfl rfl (any_of HT_.out (by kernel_rfl)) (fun _ _ _ h => h) (Or.inl ⟨by rfl, ?_⟩) ?_ ?_
                                rotate_left
                                · intro w'
                                  go_simp
                                  with_reducible rfl
                                rotate_left
                                · simp only [Act.put, List.setIfInBounds_toArray, List.set_cons_zero, List.set_cons_succ, i64_w, i32_w]
                                  rfl
                                refine pure_ (i := 2) (N := some 159) (v := ?_) (a' := ?_) #[true, true, true, false, false, false, false, false, false, false, false, false, false, false, false, false, false, false, false] rfl rfl (any_of HT_.out (by kernel_rfl)) (fun _ _ _ h => h) (Or.inl ⟨by rfl, ?_⟩) ?_ ?_
                                rotate_left
                                · intro w'
                                  go_simp
                                  with_reducible rfl
                                rotate_left
                                · simp only [Act.put, List.setIfInBounds_toArray, List.set_cons_zero, List.set_cons_succ, i64_w, i32_w]
                                  rfl
                                refine pure_ (i := 3) (N := some 160) (v := ?_) (a' := ?_) #[true, true, true, true, false, false, false, false, false, false, false, false, false, false, false, false, false, false, false] rfl rfl (any_of HT_.out (by kernel_rfl)) (fun _ _ _ h => h) (Or.inl ⟨by rfl, ?_⟩) ?_ ?_
                                rotate_left
                                · intro w'
                                  go_simp
                                  with_reducible rfl
                                rotate_left
                                · simp only [Act.put, List.setIfInBounds_toArray, List.set_cons_zero, List.set_cons_succ, i64_w, i32_w]
                                  rfl
                                refine pure_ (i := 5) (N := some 162) (v := ?_) (a' := ?_) #[true, true, true, true, false, true, false, false, false, false, false, false, false, false, false, false, false, false, false] rfl rfl (any_of HT_.out (by kernel_rfl)) (fun _ _ _ h => h) (Or.inl ⟨by rfl, ?_⟩) ?_ ?_
                                rotate_left
                                · intro w'
                                  go_simp
                                  with_reducible rfl
                                rotate_left
                                · simp only [Act.put, List.setIfInBounds_toArray, List.set_cons_zero, List.set_cons_succ, i64_w, i32_w]
                                  rfl
                                refine pure_ (i := 8) (N := some 165) (v := ?_) (a' := ?_) #[true, true, true, true, false, true, false, false, true, false, false, false, false, false, false, false, false, false, false] rfl rfl (any_of HT_.out (by kernel_rfl)) (fun _ _ _ h => h) (Or.inl ⟨by rfl, ?_⟩) ?_ ?_
                                rotate_left
                                · intro w'
                                  go_simp
                                  with_reducible rfl
                                rotate_left
                                · simp only [Act.put, List.setIfInBounds_toArray, List.set_cons_zero, List.set_cons_succ, i64_w, i32_w]
                                  rfl
                                refine pure_ (i := 9) (N := some 166) (v := ?_) (a' := ?_) #[true, true, true, true, false, true, false, false, true, true, false, false, false, false, false, false, false, false, false] rfl rfl (any_of HT_.out (by kernel_rfl)) (fun _ _ _ h => h) (Or.inl ⟨by rfl, ?_⟩) ?_ ?_
                                rotate_left
                                · intro w'
                                  go_simp
                                  with_reducible rfl
                                rotate_left
                                · simp only [Act.put, List.setIfInBounds_toArray, List.set_cons_zero, List.set_cons_succ, i64_w, i32_w]
                                  rfl
                                refine pure_ (i := 10) (N := some 167) (v := ?_) (a' := ?_) #[true, true, true, true, false, true, false, false, true, true, true, false, false, false, false, false, false, false, false] rfl rfl (any_of HT_.out (by kernel_rfl)) (fun _ _ _ h => h) (Or.inl ⟨by rfl, ?_⟩) ?_ ?_
                                rotate_left
                                · intro w'
                                  go_simp
                                  with_reducible rfl
                                rotate_left
                                · simp only [Act.put, List.setIfInBounds_toArray, List.set_cons_zero, List.set_cons_succ, i64_w, i32_w]
                                  rfl
                                refine pure_ (i := 11) (N := some 168) (v := ?_) (a' := ?_) #[true, true, true, true, false, true, false, false, true, true, true, true, false, false, false, false, false, false, false] rfl rfl (any_of HT_.out (by kernel_rfl)) (fun _ _ _ h => h) (Or.inl ⟨by rfl, ?_⟩) ?_ ?_
                                rotate_left
                                · intro w'
                                  go_simp
                                  with_reducible rfl
                                rotate_left
                                · simp only [Act.put, List.setIfInBounds_toArray, List.set_cons_zero, List.set_cons_succ, i64_w, i32_w]
                                  rfl
                                refine take_ (i := 4) (N := some 161) (v := ?_) (a' := ?_) #[true, true, true, true, true, true, false, false, true, true, true, true, false, false, false, false, false, false, false] rfl rfl (take_ofW HT_.out HW_.out (by kernel_rfl)) (fun _ _ _ h => h) (Or.inl ⟨by rfl, ?_⟩) hHeld ?_ ?_
                                rotate_left
                                · rintro w' ⟨s0, s1, s2⟩
                                  go_simp
                                  with_reducible rfl
                                rotate_left
                                · simp only [Act.put, List.setIfInBounds_toArray, List.set_cons_zero, List.set_cons_succ, i64_w, i32_w]
                                  rfl
                                refine pure_ (i := 6) (N := some 163) (v := ?_) (a' := ?_) #[true, true, true, true, true, true, true, false, true, true, true, true, false, false, false, false, false, false, false] rfl rfl (any_of HT_.out (by kernel_rfl)) (fun _ _ _ h => h) (Or.inl ⟨by rfl, ?_⟩) ?_ ?_
                                rotate_left
                                · intro w'
                                  go_simp
                                  with_reducible rfl
                                rotate_left
                                · simp only [Act.put, List.setIfInBounds_toArray, List.set_cons_zero, List.set_cons_succ, i64_w, i32_w]
                                  rfl
                                refine take_ (i := 7) (N := some 164) (v := ?_) (a' := ?_) #[true, true, true, true, true, true, true, true, true, true, true, true, false, false, false, false, false, false, false] rfl rfl (take_ofW HT_.out HW_.out (by kernel_rfl)) (fun _ _ _ h => h) (Or.inl ⟨by rfl, ?_⟩) hHeld ?_ ?_
                                rotate_left
                                · rintro w' ⟨s0, s1, s2⟩
                                  go_simp
                                  with_reducible rfl
                                rotate_left
                                · simp only [Act.put, List.setIfInBounds_toArray, List.set_cons_zero, List.set_cons_succ, i64_w, i32_w]
                                  rfl
                                refine take_ (i := 12) (N := some 169) (v := ?_) (a' := ?_) #[true, true, true, true, true, true, true, true, true, true, true, true, true, false, false, false, false, false, false] rfl rfl (take_ofW HT_.out HW_.out (by kernel_rfl)) (fun _ _ _ h => h) (Or.inl ⟨by rfl, ?_⟩) hHeld ?_ ?_
                                rotate_left
                                · rintro w' ⟨s0, s1, s2⟩
                                  go_simp
                                  with_reducible rfl
                                rotate_left
                                · simp only [Act.put, List.setIfInBounds_toArray, List.set_cons_zero, List.set_cons_succ, i64_w, i32_w]
                                  rfl
                                refine pure_ (i := 13) (N := some 170) (v := ?_) (a' := ?_) #[true, true, true, true, true, true, true, true, true, true, true, true, true, true, false, false, false, false, false] rfl rfl (any_of HT_.out (by kernel_rfl)) (fun _ _ _ h => h) (Or.inl ⟨by rfl, ?_⟩) ?_ ?_
                                rotate_left
                                · intro w'
                                  go_simp
                                  with_reducible rfl
                                rotate_left
                                · simp only [Act.put, List.setIfInBounds_toArray, List.set_cons_zero, List.set_cons_succ, i64_w, i32_w]
                                  rfl
                                refine pure_ (i := 14) (N := some 171) (v := ?_) (a' := ?_) #[true, true, true, true, true, true, true, true, true, true, true, true, true, true, true, false, false, false, false] rfl rfl (any_of HT_.out (by kernel_rfl)) (fun _ _ _ h => h) (Or.inl ⟨by rfl, ?_⟩) ?_ ?_
                                rotate_left
                                · intro w'
                                  go_simp
                                  with_reducible rfl
                                rotate_left
                                · simp only [Act.put, List.setIfInBounds_toArray, List.set_cons_zero, List.set_cons_succ, i64_w, i32_w]
                                  rfl
                                refine last_ (i := 15) (N := some 172) #[true, true, true, true, true, true, true, true, true, true, true, true, true, true, true, true, false, false, false] rfl rfl (one_of HT_.out (by kernel_rfl)) (by decide) (fun K hK => ?_)
                                refine goes_ Try.func40 (by kernel_rfl) rfl #[.int .i64 (wrap64 (iv.gt Lb x y - wrap64 (iv.gt Lb x c * iv.gt Lb c y)))] (by rfl) rfl rfl (by (try simp only [List.map_toArray, List.map_cons, List.map_nil]); first | done | rfl) ?_
                                refine (spec_l09Mod.calls (wrap64 (iv.gt Lb x y - wrap64 (iv.gt Lb x c * iv.gt Lb c y))) (iv.inF (wrap64 (iv.gt Lb x y - wrap64 (iv.gt Lb x c * iv.gt Lb c y)))) _ rfl).mono ?_
                                rintro e wf ⟨rfl, ⟨nd, rfl⟩⟩
                                refine ⟨_, rfl, ?_⟩
                                refine hK.out _ _ ?_
                                clear hK K
                                refine norm_ (a' := ?_) ?_ ?_
                                rotate_left
                                · show Act.put _ (some 172) _ = _
                                  simp only [Act.put, List.setIfInBounds_toArray, List.set_cons_zero, List.set_cons_succ, i64_w, i32_w]
                                  rfl
                                refine last_ (i := 16) (N := some 173) #[true, true, true, true, true, true, true, true, true, true, true, true, true, true, true, true, true, false, false] rfl rfl (one_of HT_.out (by kernel_rfl)) (by decide) (fun K hK => ?_)
                                refine value_ (w1 := ?_) (v := ?_) (by rfl) rfl ?_ ?_
                                rotate_left 2
                                · go_simp
                                  constructor
                                  · rfl
                                  · rfl
                                refine hK.out _ _ ?_
                                clear hK K
                                refine norm_ (a' := ?_) ?_ ?_
                                rotate_left
                                · show Act.put _ (some 173) _ = _
                                  simp only [Act.put, List.setIfInBounds_toArray, List.set_cons_zero, List.set_cons_succ, i64_w, i32_w]
                                  rfl
                                refine last_ (i := 17) (N := some 174) #[true, true, true, true, true, true, true, true, true, true, true, true, true, true, true, true, true, true, false] rfl rfl (one_of HT_.out (by kernel_rfl)) (by decide) (fun K hK => ?_)
                                refine Kd.R_append_step (Kd.int .i64) (w0 := wq) wq.heap.size (by rfl) (.tmp 157) (.tmp 173) 22 2 (.int .i64 0) 8 rfl Try.underlying22 info2 rfl (by decide) (by omega) (u17) (NX.take y.toNat) (iv.inF (wrap64 (iv.gt Lb x y - wrap64 (iv.gt Lb x c * iv.gt Lb c y)))) [.int .i64 (iv.inF (wrap64 (iv.gt Lb x y - wrap64 (iv.gt Lb x c * iv.gt Lb c y))))] (fun _ => True) (fun _ => False) rfl rfl ?aP (fun _ hk => hk.elim) ?aF ?aO ?aB ?aS ?aL ?_
                                (case aP => exact rfl)
                                (case aB => exact (by repeat (first | (with_reducible first | exact HB2.out | apply below_alloc | apply pw_below_drewN | apply below_drew1) | exact HB2.out)))
                                (case aF => exact (fun _ _ => trivial))
                                (case aO => exact (by (with_reducible repeat (first | apply Kd.R_alloc | apply Kd.R_drewN | apply Kd.R_drew)); exact RN.out))
                                (case aS => exact (below_size (by repeat (first | (with_reducible first | exact HB2.out | apply below_alloc | apply pw_below_drewN | apply below_drew1) | exact HB2.out))))
                                (case aL => rw [List.length_take]; have := HM.out; have := HD.out; have := HY0.out; have := HY1.out; omega)
                                intro v17_ w13 ho hb hg hat
                                clear HB2 RN
                                have HB2 := Aside0.mk hb
                                have RN := Aside0.mk ho
                                clear ho hb hg hat
                                refine hK.out _ _ ?_
                                clear hK K
                                refine norm_ (a' := ?_) ?_ ?_
                                rotate_left
                                · show Act.put _ (some 174) _ = _
                                  simp only [Act.put, List.setIfInBounds_toArray, List.set_cons_zero, List.set_cons_succ, i64_w, i32_w]
                                  rfl
                                refine pure_ (i := 18) (N := some 17) (v := ?_) (a' := ?_) #[true, true, true, true, true, true, true, true, true, true, true, true, true, true, true, true, true, true, true] rfl rfl (any_of HT_.out (by kernel_rfl)) (fun _ _ _ h => h) (Or.inl ⟨by rfl, ?_⟩) ?_ ?_
                                rotate_left
                                · intro w'
                                  go_simp
                                  with_reducible rfl
                                rotate_left
                                · simp only [Act.put, List.setIfInBounds_toArray, List.set_cons_zero, List.set_cons_succ, i64_w, i32_w]
                                  rfl
                                refine done_ (done_of HT_.out (by kernel_rfl)) ?_
                                clear hzA hvA0 hvB0 HT_ HW_
                                (try clear hHeld)
                                try go_wp2
                                go_roundg k4
                                case measure => omega
                                case rel =>
                                  have HW2 := Aside0.mk (show wrap64 (y + 1) = y + 1 by have := HY0.out; have := HY1.out; have := HM.out; have := HD.out; unfold wrap64; omega)
                                  have HT : Aside0 (NX.take y.toNat ++ [iv.inF (wrap64 (iv.gt Lb x y - wrap64 (iv.gt Lb x c * iv.gt Lb c y)))] = NX.take (y + 1).toNat) := ⟨by have h_ := sv.elr_take (iv.gt Lb x c) (Lb.getD x.toNat []) (Lb.getD c.toNat []) y HY0.out (by have e_ := HSL.out.at x HX0.out HX1.out; have := HY0.out; have := HY1.out; omega) (by have e_ := HSL.out.at c HC0.out HC1.out; have := HY0.out; have := HY1.out; omega); rw [show sv.elr (iv.gt Lb x c) (Lb.getD x.toNat []) (Lb.getD c.toNat []) = NX from by rw [HLC.out]; exact HNX.out] at h_; exact h_⟩
                                  exact ⟨wrap64 (y + 1), s, (by first | rfl | (simp; done) | (simp [*]; done)), ⟨by have := HQ4.out; omega⟩, ⟨by have := HY.out; rw [HW2.out]; omega⟩, ⟨by rw [HW2.out, ← HT.out]; exact (by (with_reducible repeat (first | apply Kd.R_alloc | apply Kd.R_drewN | apply Kd.R_drew)); exact RN.out)⟩, ⟨(by repeat (first | (with_reducible first | exact HB2.out | apply below_alloc | apply pw_below_drewN | apply below_drew1) | exact HB2.out))⟩⟩


/-! ### spec_l09Pair: function 59 -/
def spec_l09Pair.l0 : Nat → Int → Int → Int → Int → Int → Option (Int)
  | 0, _, _, _, _, _ => none
  | k + 1, x0, x1, x2, x7, x8 => if x8 < x1 then (spec_l09Pair.l0 k x0 x1 x2 (wrap64 ((wrap64 (x7 + x0)) - x8)) (wrap64 (x8 + 1))) else (some (wrap64 ((wrap64 ((wrap64 (x7 + x2)) - x1)) - 1)))
def spec_l09Pair.f (k : Nat) (a0 : Int) (a1 : Int) (a2 : Int) : Option (Int) := spec_l09Pair.l0 k a0 a1 a2 0 1
theorem spec_l09Pair.mono_l : ∀ k, (∀ y0 y1 y2 y3 y4, LeO (spec_l09Pair.l0 k y0 y1 y2 y3 y4) (spec_l09Pair.l0 (k + 1) y0 y1 y2 y3 y4))
  | 0 => fun _ _ _ _ _ r h => by simp [spec_l09Pair.l0] at h
  | k + 1 => by
    have ih0 := spec_l09Pair.mono_l k
    · intro y0 y1 y2 y3 y4
      unfold spec_l09Pair.l0
      repeat' first
      | (with_reducible exact ih0 _ _ _ _ _)
      | (with_reducible exact LeO.refl _)
      | (with_reducible exact LeO.none _)
      | (with_reducible refine LeO.ite ?_ ?_)
      | (with_reducible refine LeO.bind ?_ (fun _ => ?_))
      | exact ih0 _ _ _ _ _
      | exact LeO.none _
      | refine LeO.ite ?_ ?_
      | refine LeO.bind ?_ (fun _ => ?_)
theorem spec_l09Pair.mono : ∀ a0 a1 a2 k, LeO (spec_l09Pair.f k a0 a1 a2) (spec_l09Pair.f (k + 1) a0 a1 a2) := by
  intro a0 a1 a2 k
  have ih0 := spec_l09Pair.mono_l k
  unfold spec_l09Pair.f
  repeat' first
      | (with_reducible exact ih0 _ _ _ _ _)
      | (with_reducible exact LeO.refl _)
      | (with_reducible exact LeO.none _)
      | (with_reducible refine LeO.ite ?_ ?_)
      | (with_reducible refine LeO.bind ?_ (fun _ => ?_))
      | exact ih0 _ _ _ _ _
      | exact LeO.none _
      | refine LeO.ite ?_ ?_
      | refine LeO.bind ?_ (fun _ => ?_)
set_option maxHeartbeats 8000000 in
set_option maxRecDepth 100000 in
theorem spec_l09Pair.calls (k : Nat) (a0 : Int) (a1 : Int) (a2 : Int) (r : Int) (w : World) (h : spec_l09Pair.f k a0 a1 a2 = some r) :
    Calls Try.prog 59 #[.int .i64 a0, .int .i64 a1, .int .i64 a2] w fun e w' => e = .returned (.int .i64 r) ∧ Drawn0 w w' := by
  have H : (spec_l09Pair.l0 k a0 a1 a2 0 1) = some r := h
  clear h
  have H' := Aside0.mk H
  clear H
  go_enter Try.func59, Try.ntmps59
  go_wp2
  go_loopg [7, 8] k (fun kq v7 v8 w' => ∃ (x7_1 : Int) (x8_1 : Int), v7 = .int .i64 x7_1 ∧ v8 = .int .i64 x8_1 ∧ Aside0 (spec_l09Pair.l0 kq a0 a1 a2 x7_1 x8_1 = some r) ∧ Aside0 (kq ≤ k) ∧ Drawn0 w w')
  case atStart => exact ⟨(0), (1), (by first | rfl | (simp; done) | (simp [*]; done)), (by first | rfl | (simp; done) | (simp [*]; done)), H', ⟨Nat.le_refl _⟩, by repeat (first | exact Drawn0.refl _ | apply Drawn0.step)⟩
  case round =>
    clear H'
    try clear p2
    obtain ⟨x7_1, x8_1, rfl, rfl, HA, HK1, ⟨m1, rfl⟩⟩ := hrel
    cases gk with
    | zero => exact absurd HA.out (by simp [spec_l09Pair.l0])
    | succ k1 =>
      have H := HA.out
      clear HA
      simp only [spec_l09Pair.l0] at H
      by_cases c4 : x8_1 < a1
      · rw [if_pos c4] at H
        have c4b0 : decide (x8_1 < a1) = true := decide_eq_true c4
        clear c4
        have H' := Aside0.mk H
        clear H
        go_wp2
        go_roundg k1
        case measure => have := HK1.out; omega
        case rel => exact ⟨(wrap64 ((wrap64 (x7_1 + a0)) - x8_1)), (wrap64 (x8_1 + 1)), (by first | rfl | (simp; done) | (simp [*]; done)), (by first | rfl | (simp; done) | (simp [*]; done)), H', ⟨by have := HK1.out; omega⟩, by repeat (first | exact Drawn0.refl _ | apply Drawn0.step)⟩
      · rw [if_neg c4] at H
        have c4b0 : decide (x8_1 < a1) = false := decide_eq_false c4
        clear c4
        obtain rfl := Option.some.inj H
        go_wp2
        go_ret
        exact ⟨by first | rfl | (simp; done) | (simp [*]; done), by repeat (first | exact Drawn0.refl _ | apply Drawn0.step)⟩

/-! ### spec_l09Power: function 60 -/
def spec_l09Power.l0 : Nat → Int → Int → Int → Option (Int)
  | 0, _, _, _ => none
  | k + 1, x0, x1, x5 => if x1 > 0 then (spec_l09Power.l0 k x0 (wrap64 (x1 - 1)) (Int.tmod (wrap64 (x5 * x0)) 10007)) else (some x5)
def spec_l09Power.f (k : Nat) (a0 : Int) (a1 : Int) : Option (Int) := spec_l09Power.l0 k a0 a1 1
theorem spec_l09Power.mono_l : ∀ k, (∀ y0 y1 y2, LeO (spec_l09Power.l0 k y0 y1 y2) (spec_l09Power.l0 (k + 1) y0 y1 y2))
  | 0 => fun _ _ _ r h => by simp [spec_l09Power.l0] at h
  | k + 1 => by
    have ih0 := spec_l09Power.mono_l k
    · intro y0 y1 y2
      unfold spec_l09Power.l0
      repeat' first
      | (with_reducible exact ih0 _ _ _)
      | (with_reducible exact LeO.refl _)
      | (with_reducible exact LeO.none _)
      | (with_reducible refine LeO.ite ?_ ?_)
      | (with_reducible refine LeO.bind ?_ (fun _ => ?_))
      | exact ih0 _ _ _
      | exact LeO.none _
      | refine LeO.ite ?_ ?_
      | refine LeO.bind ?_ (fun _ => ?_)
theorem spec_l09Power.mono : ∀ a0 a1 k, LeO (spec_l09Power.f k a0 a1) (spec_l09Power.f (k + 1) a0 a1) := by
  intro a0 a1 k
  have ih0 := spec_l09Power.mono_l k
  unfold spec_l09Power.f
  repeat' first
      | (with_reducible exact ih0 _ _ _)
      | (with_reducible exact LeO.refl _)
      | (with_reducible exact LeO.none _)
      | (with_reducible refine LeO.ite ?_ ?_)
      | (with_reducible refine LeO.bind ?_ (fun _ => ?_))
      | exact ih0 _ _ _
      | exact LeO.none _
      | refine LeO.ite ?_ ?_
      | refine LeO.bind ?_ (fun _ => ?_)
set_option maxHeartbeats 8000000 in
set_option maxRecDepth 100000 in
theorem spec_l09Power.calls (k : Nat) (a0 : Int) (a1 : Int) (r : Int) (w : World) (h : spec_l09Power.f k a0 a1 = some r) :
    Calls Try.prog 60 #[.int .i64 a0, .int .i64 a1] w fun e w' => e = .returned (.int .i64 r) ∧ Drawn0 w w' := by
  have H : (spec_l09Power.l0 k a0 a1 1) = some r := h
  clear h
  have H' := Aside0.mk H
  clear H
  go_enter Try.func60, Try.ntmps60
  go_wp2
  go_loopg [1, 5] k (fun kq v1 v5 w' => ∃ (x1_1 : Int) (x5_1 : Int), v1 = .int .i64 x1_1 ∧ v5 = .int .i64 x5_1 ∧ Aside0 (spec_l09Power.l0 kq a0 x1_1 x5_1 = some r) ∧ Aside0 (kq ≤ k) ∧ Drawn0 w w')
  case atStart => exact ⟨(a1), (1), (by first | rfl | (simp; done) | (simp [*]; done)), (by first | rfl | (simp; done) | (simp [*]; done)), H', ⟨Nat.le_refl _⟩, by repeat (first | exact Drawn0.refl _ | apply Drawn0.step)⟩
  case round =>
    clear H'
    try clear p2
    obtain ⟨x1_1, x5_1, rfl, rfl, HA, HK1, ⟨m1, rfl⟩⟩ := hrel
    cases gk with
    | zero => exact absurd HA.out (by simp [spec_l09Power.l0])
    | succ k1 =>
      have H := HA.out
      clear HA
      simp only [spec_l09Power.l0] at H
      by_cases c3 : x1_1 > 0
      · rw [if_pos c3] at H
        have c3b0 : decide (0 < x1_1) = true := decide_eq_true c3
        clear c3
        have H' := Aside0.mk H
        clear H
        go_wp2
        go_roundg k1
        case measure => have := HK1.out; omega
        case rel => exact ⟨(wrap64 (x1_1 - 1)), (Int.tmod (wrap64 (x5_1 * a0)) 10007), (by first | rfl | (simp; done) | (simp [*]; done)), (by first | rfl | (simp; done) | (simp [*]; done)), H', ⟨by have := HK1.out; omega⟩, by repeat (first | exact Drawn0.refl _ | apply Drawn0.step)⟩
      · rw [if_neg c3] at H
        have c3b0 : decide (0 < x1_1) = false := decide_eq_false c3
        clear c3
        obtain rfl := Option.some.inj H
        go_wp2
        go_ret
        exact ⟨by first | rfl | (simp; done) | (simp [*]; done), by repeat (first | exact Drawn0.refl _ | apply Drawn0.step)⟩

end Go.Proofs.Ytifmdgffimckgaa.MFnExactKrammerTrace
