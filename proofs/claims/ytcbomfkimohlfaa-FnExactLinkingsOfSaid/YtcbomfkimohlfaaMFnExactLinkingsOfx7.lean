-- Walks of the functions that a law reaches, one after the other: plain functions, and that the machine's calls come to what they tell (wip/tools/myprint.py of this repo).
import Derived.Test.YtcbomfkimohlfaaMFnExactLinkingsOfx0
import Derived.Test.YtcbomfkimohlfaaMFnExactLinkingsOfx5
import Derived.Test.YtcbomfkimohlfaaMFnExactLinkingsOfx6
import Derived.Test.YtcbomfkimohlfaaLibMx
import Derived.Test.YtcbomfkimohlfaaLibCr
namespace Go.Proofs.Ytcbomfkimohlfaa.MFnExactLinkingsOf
open Go.RowKit Go.Proofs.YtcbomfkimohlfaaW.PrintWords Go.Proofs.YtcbomfkimohlfaaW.PrintLast Go.Proofs.YtcbomfkimohlfaaW.PrintMore
open Go.Proofs.Ytcbomfkimohlfaa.LibCr
open Go.Proofs.Ytcbomfkimohlfaa.LibMx
attribute [local go_sem] max2_int min2_int max_two min_two max_three min_three max_four min_four   -- for this text's walks alone
set_option linter.unusedVariables false
set_option linter.unusedSimpArgs false

/-! ### impl_LinkingsOf: function 28 -/
def impl_LinkingsOf.f (k : Nat) (a0_0 : Int) (l0_1 : List Int) : Option (List (List Int) × Int) := (impl_pureCode.f k a0_0 l0_1).bind fun c => if c = 0 then (impl_CrossingsOf.f k a0_0 l0_1).bind fun r => if iv.Sq r.1.length r.1 ∧ 1 ≤ r.1.length ∧ r.1.length ≤ 8 then some (cr.hvs r.1.length r.1.length 0 r.1, r.2) else none else some ([], c)
theorem impl_LinkingsOf.mono : ∀ a0 a1 k, LeO (impl_LinkingsOf.f k a0 a1) (impl_LinkingsOf.f (k + 1) a0 a1) := by
  intro a0 a1 k
  unfold impl_LinkingsOf.f
  exact LeO.bind (impl_pureCode.mono _ _ _) (fun _ => LeO.ite (LeO.bind (impl_CrossingsOf.mono _ _ _) (fun _ => LeO.refl _)) (LeO.refl _))
set_option maxHeartbeats 8000000 in
set_option maxRecDepth 100000 in
theorem impl_LinkingsOf.calls (k : Nat) (a0_0 : Int) (A0_1 : Option Addr) (c0_1 : Nat) (l0_1 : List Int) (r1 : List (List Int)) (r2 : Int) (w : World) (hr0_1 : Kd.C (Kd.int .i64) w A0_1 l0_1.length l0_1) (hc0_1 : l0_1.length ≤ c0_1) (h : impl_LinkingsOf.f k a0_0 l0_1 = some (r1, r2)) :
    Calls Try.prog 28 #[.agg #[.int .i64 a0_0, .slice A0_1 l0_1.length c0_1]] w fun e w' => ∃ v0_ : Value, e = .returned (.tuple #[v0_, .int .i64 r2]) ∧ Kd.S (Kd.slice 2 (Kd.int .i64)) 22 w' w.heap.size (fun _ => True) v0_ r1 ∧ Below w.heap.size w w' := by
  have hu := Try.underlying26
  have HR0 := Aside0.mk hr0_1
  have HC0 := Aside0.mk hc0_1
  clear hr0_1 hc0_1
  have HB := Aside0.mk (Below.refl w.heap.size w)
  have H0 := h
  clear h
  unfold impl_LinkingsOf.f at H0
  obtain ⟨c, A1_, H1⟩ := Option.bind_eq_some_iff.mp H0
  clear H0
  have A1 := Aside0.mk A1_
  clear A1_
  by_cases hc : c = 0
  case neg =>
    rw [if_neg hc, Option.some.injEq, Prod.mk.injEq] at H1
    obtain ⟨rfl, rfl⟩ := H1
    have cb0 : (c == 0) = false := beq_eq_false_iff_ne.mpr hc
    have cb1 : (c != 0) = true := bne_iff_ne.mpr hc
    clear hc
    go_enter Try.func28, Try.ntmps28
    go_wp2_with (first | ((with_reducible refine gate_dst (N := 1) rfl ?_); refine box_event ?hg (N := 1) ?hd (cs := #[.int .i64 a0_0, .slice A0_1 l0_1.length c0_1]) (t := 26) ?hr ?_; (case hd => rfl); (case hg => rfl); (case hr => first | (go_simp; done) | (go_simp; rfl)); intro gb hg w1 hbox hb; have n_ := Aside0.mk (below_step (by repeat (first | (with_reducible first | exact HB.out | apply below_alloc | apply pw_below_drewN | apply below_drew1) | exact HB.out)) hb); clear HB; have HB := n_; clear n_; have HCB0 := Aside0.mk ((blk_cell hbox 0).trans rfl); have HCB1 := Aside0.mk ((blk_cell hbox 1).trans rfl); have HB2 := Aside0.mk (Below.refl w1.heap.size w1); have HRA := Aside0.mk (Kd.C_below HR0.out HB.out); clear hg hb; have hzgb_0 := (blk_cell hbox 0).trans rfl; have hzgb_1 := (blk_cell hbox 1).trans rfl; clear hbox) | ((with_reducible refine gate_callee (f := 66) rfl ?_); refine goesL_ (some 11) rfl rfl Try.func66 (by kernel_rfl) rfl #[.agg #[.int .i64 a0_0, .slice A0_1 l0_1.length c0_1]] rfl (by (try simp only [List.map_toArray, List.map_cons, List.map_nil]); first | done | rfl) ?_; (with_reducible refine (impl_pureCode.calls k a0_0 _ _ l0_1 c _ ?side1 ?side2 A1.out).mono ?_); (case side1 => repeat (first | exact (Kd.C_below HRA.out HB2.out) | (with_reducible refine Kd.C_alloc ?_ _) | (with_reducible refine Kd.C_drewN ?_ _) | (with_reducible refine Kd.C_drew ?_))); (case side2 => exact HC0.out); rintro e wi ⟨rfl, hb⟩; refine ⟨_, rfl, ?_⟩; have n_ := Aside0.mk (below_step (by repeat (first | (with_reducible first | exact HB2.out | apply below_alloc | apply pw_below_drewN | apply below_drew1) | exact HB2.out)) hb); clear HB2; have HB2 := n_; clear n_; clear hb; (try clear hzgb_0 hzgb_1); have hzgb_0 := (HB2.out.cell (World.block_lt_of_cell? w1 _ HCB0.out)).trans HCB0.out; have hzgb_1 := (HB2.out.cell (World.block_lt_of_cell? w1 _ HCB1.out)).trans HCB1.out))
    go_ret2
    exact ⟨_, rfl, Kd.S_nil _ _ _ _ _, below_step HB.out (by repeat (first | (with_reducible first | exact HB2.out | apply below_alloc | apply pw_below_drewN | apply below_drew1) | exact HB2.out))⟩
  subst hc
  rw [if_pos rfl] at H1
  obtain ⟨⟨L0, rc⟩, A2_, H2⟩ := Option.bind_eq_some_iff.mp H1
  clear H1
  have A2 := Aside0.mk A2_
  clear A2_
  simp only at H2
  by_cases hg : iv.Sq L0.length L0 ∧ 1 ≤ L0.length ∧ L0.length ≤ 8
  case neg => rw [if_neg hg] at H2; cases H2
  rw [if_pos hg, Option.some.injEq, Prod.mk.injEq] at H2
  obtain ⟨e1_, e2_⟩ := H2
  subst e2_
  obtain ⟨n, hn⟩ : ∃ n, L0.length = n := ⟨_, rfl⟩
  have HLL := Aside0.mk hn
  rw [hn] at hg e1_
  have HM : Aside0 (1 ≤ n ∧ n ≤ 8) := ⟨hg.2⟩
  have HSL := Aside0.mk hg.1
  have HLF := Aside0.mk e1_
  clear hg e1_ hn
  go_enter Try.func28, Try.ntmps28
  go_wp2_with (first | ((with_reducible refine gate_dst (N := 1) rfl ?_); refine box_event ?hg (N := 1) ?hd (cs := #[.int .i64 a0_0, .slice A0_1 l0_1.length c0_1]) (t := 26) ?hr ?_; (case hd => rfl); (case hg => rfl); (case hr => first | (go_simp; done) | (go_simp; rfl)); intro gb hg w1 hbox hb; have n_ := Aside0.mk (below_step (by repeat (first | (with_reducible first | exact HB.out | apply below_alloc | apply pw_below_drewN | apply below_drew1) | exact HB.out)) hb); clear HB; have HB := n_; clear n_; have HCB0 := Aside0.mk ((blk_cell hbox 0).trans rfl); have HCB1 := Aside0.mk ((blk_cell hbox 1).trans rfl); have HB2 := Aside0.mk (Below.refl w1.heap.size w1); have HRA := Aside0.mk (Kd.C_below HR0.out HB.out); clear hg hb; have hzgb_0 := (blk_cell hbox 0).trans rfl; have hzgb_1 := (blk_cell hbox 1).trans rfl; clear hbox) | ((with_reducible refine gate_callee (f := 66) rfl ?_); refine goesL_ (some 11) rfl rfl Try.func66 (by kernel_rfl) rfl #[.agg #[.int .i64 a0_0, .slice A0_1 l0_1.length c0_1]] rfl (by (try simp only [List.map_toArray, List.map_cons, List.map_nil]); first | done | rfl) ?_; (with_reducible refine (impl_pureCode.calls k a0_0 _ _ l0_1 0 _ ?side1 ?side2 A1.out).mono ?_); (case side1 => repeat (first | exact (Kd.C_below HRA.out HB2.out) | (with_reducible refine Kd.C_alloc ?_ _) | (with_reducible refine Kd.C_drewN ?_ _) | (with_reducible refine Kd.C_drew ?_))); (case side2 => exact HC0.out); rintro e wi ⟨rfl, hb⟩; refine ⟨_, rfl, ?_⟩; have n_ := Aside0.mk (below_step (by repeat (first | (with_reducible first | exact HB2.out | apply below_alloc | apply pw_below_drewN | apply below_drew1) | exact HB2.out)) hb); clear HB2; have HB2 := n_; clear n_; clear hb; (try clear hzgb_0 hzgb_1); have hzgb_0 := (HB2.out.cell (World.block_lt_of_cell? w1 _ HCB0.out)).trans HCB0.out; have hzgb_1 := (HB2.out.cell (World.block_lt_of_cell? w1 _ HCB1.out)).trans HCB1.out) | ((with_reducible refine gate_callee (f := 67) rfl ?_); refine goesL_ (some 17) rfl rfl Try.func67 (by kernel_rfl) rfl #[.agg #[.int .i64 a0_0, .slice A0_1 l0_1.length c0_1]] rfl (by (try simp only [List.map_toArray, List.map_cons, List.map_nil]); first | done | rfl) ?_; (with_reducible refine (impl_CrossingsOf.calls k a0_0 _ _ l0_1 L0 rc _ ?side1 ?side2 A2.out).mono ?_); (case side1 => repeat (first | exact (Kd.C_below HRA.out HB2.out) | (with_reducible refine Kd.C_alloc ?_ _) | (with_reducible refine Kd.C_drewN ?_ _) | (with_reducible refine Kd.C_drew ?_))); (case side2 => exact HC0.out); rintro e wz ⟨vZ, rfl, ho0, hb⟩; refine ⟨_, rfl, ?_⟩; obtain ⟨gL, cL, eL, _, _, _⟩ := Kd.S_form ho0 (by rw [HLL.out]; have := HM.out; omega); rw [HLL.out] at eL; subst eL; have SL := Aside0.mk (Kd.S_lower ho0 (below_size (by repeat (first | (with_reducible first | exact HB2.out | apply below_alloc | apply pw_below_drewN | apply below_drew1) | exact HB2.out)))); have n_ := Aside0.mk (below_step (by repeat (first | (with_reducible first | exact HB2.out | apply below_alloc | apply pw_below_drewN | apply below_drew1) | exact HB2.out)) hb); clear HB2; have HB2 := n_; clear n_; have HGL := Aside0.mk (Kd.R_base (Kd.S_R SL.out) gL rfl); clear hb ho0 hzgb_0 hzgb_1))
  go_loopg [22] 30 (fun kq v22 wr => ∃ (L : List (List Int)) (x : Int) (q : Nat), v22 = .int .i64 x ∧ Aside0 (q < kq) ∧ Aside0 ((q : Int) + x = (n : Int) ∧ 0 ≤ x) ∧ Aside0 (cr.hvs n q x L = r1) ∧ Aside0 (iv.Sq n L) ∧ Aside0 (Mx 2 22 wr w1.heap.size (fun _ => True) (.slice (some ⟨gL, 0, none⟩) n cL) L) ∧ Aside0 (Below w1.heap.size w1 wr))
  case atStart => exact ⟨L0, 0, n, (by first | rfl | (simp; done) | (simp [*]; done)), ⟨by have := HM.out; omega⟩, ⟨by omega⟩, HLF, HSL, ⟨(by (with_reducible repeat (first | apply Kd.S_alloc | apply Kd.S_drewN | apply Kd.S_drew)); exact SL.out)⟩, ⟨(by repeat (first | (with_reducible first | exact HB2.out | apply below_alloc | apply pw_below_drewN | apply below_drew1) | exact HB2.out))⟩⟩
  case round =>
    clear SL HB2 HSL HLF
    obtain ⟨L, x, q, rfl, HQ, HX, HA, HSL, SL, HB2⟩ := hrel
    cases gk with
    | zero => exact absurd HQ.out (Nat.not_lt_zero _)
    | succ k1 =>
    cases q with
    | zero =>
      have cxb : decide (x < (n : Int)) = false := decide_eq_false (by have := HX.out; omega)
      have e_ := HA.out
      simp only [cr.hvs] at e_
      subst e_
      go_wp2
      go_ret2
      exact ⟨_, rfl, Kd.S_lower (by (with_reducible repeat (first | apply Kd.S_alloc | apply Kd.S_drewN | apply Kd.S_drew)); exact SL.out) (below_size HB.out), below_step HB.out (by repeat (first | (with_reducible first | exact HB2.out | apply below_alloc | apply pw_below_drewN | apply below_drew1) | exact HB2.out))⟩
    | succ q =>
      have hx0 : 0 ≤ x := HX.out.2
      have hx1 : x < (n : Int) := by have := HX.out; omega
      have cxb : decide (x < (n : Int)) = true := decide_eq_true hx1
      have ppx : (0 ≤ x) = True := eq_true hx0
      have qqx : (x < (n : Int)) = True := eq_true hx1
      have HX0 := Aside0.mk hx0
      have HX1 := Aside0.mk hx1
      clear hx0 hx1
      obtain ⟨grA, crA, hzA, hfA_, hbA_, hkA_, hnA_, hcA_, _⟩ := mx_atm (m := n) SL.out x HX0.out HX1.out (HSL.out.at _ HX0.out HX1.out) (by have := HM.out; omega)
      clear hfA_ hbA_ hkA_ hcA_
      have HNA := Aside0.mk hnA_
      have HO := Aside0.mk hzA
      clear hnA_
      have HA := HA.out
      unfold cr.hvs at HA
      obtain ⟨Le, hLe⟩ : ∃ z, cr.hv x n 0 L = z := ⟨_, rfl⟩
      rw [hLe] at HA
      have HLe := Aside0.mk hLe
      have HA := Aside0.mk HA
      clear hLe
      go_wp2
      go_loopg [28] 30 (fun kq v28 wr => ∃ (Lc : List (List Int)) (y : Int) (s : Nat), v28 = .int .i64 y ∧ Aside0 (s < kq) ∧ Aside0 ((s : Int) + y = (n : Int) ∧ 0 ≤ y) ∧ Aside0 (cr.hv x s y Lc = Le) ∧ Aside0 (iv.Sq n Lc) ∧ Aside0 (World.cell? wr ⟨gL, x.toNat, none⟩ = some (.slice (some ⟨grA, 0, none⟩) n crA)) ∧ Aside0 (Mx 2 22 wr w1.heap.size (fun _ => True) (.slice (some ⟨gL, 0, none⟩) n cL) Lc) ∧ Aside0 (Below w1.heap.size w1 wr))
      case atStart => exact ⟨L, 0, n, (by first | rfl | (simp; done) | (simp [*]; done)), ⟨by have := HM.out; omega⟩, ⟨by omega⟩, HLe, HSL, ⟨HO.out⟩, ⟨(by (with_reducible repeat (first | apply Kd.S_alloc | apply Kd.S_drewN | apply Kd.S_drew)); exact SL.out)⟩, ⟨(by repeat (first | (with_reducible first | exact HB2.out | apply below_alloc | apply pw_below_drewN | apply below_drew1) | exact HB2.out))⟩⟩
      case round =>
        clear SL HB2 HSL HO hzA HLe
        obtain ⟨Lc, y, s, rfl, HQ2, HY, HE, HSL, HO, SL, HB2⟩ := hrel
        cases gk with
        | zero => exact absurd HQ2.out (Nat.not_lt_zero _)
        | succ k2 =>
        cases s with
        | zero =>
          have cyb : decide (y < (n : Int)) = false := decide_eq_false (by have := HY.out; omega)
          have e_ := HE.out
          simp only [cr.hv] at e_
          subst e_
          go_wp2
          go_roundg k1
          case measure => omega
          case rel =>
            have HW := Aside0.mk (show wrap64 (x + 1) = x + 1 by have := HX0.out; have := HX1.out; have := HM.out; unfold wrap64; omega)
            exact ⟨Lc, wrap64 (x + 1), q, (by first | rfl | (simp; done) | (simp [*]; done)), ⟨by have := HQ.out; omega⟩, ⟨by have := HX.out; rw [HW.out]; omega⟩, ⟨by rw [HW.out]; exact HA.out⟩, HSL, ⟨(by (with_reducible repeat (first | apply Kd.S_alloc | apply Kd.S_drewN | apply Kd.S_drew)); exact SL.out)⟩, ⟨(by repeat (first | (with_reducible first | exact HB2.out | apply below_alloc | apply pw_below_drewN | apply below_drew1) | exact HB2.out))⟩⟩
        | succ s =>
          have hy0 : 0 ≤ y := HY.out.2
          have hy1 : y < (n : Int) := by have := HY.out; omega
          have cyb : decide (y < (n : Int)) = true := decide_eq_true hy1
          have ppy : (0 ≤ y) = True := eq_true hy0
          have qqy : (y < (n : Int)) = True := eq_true hy1
          have HY0 := Aside0.mk hy0
          have HY1 := Aside0.mk hy1
          clear hy0 hy1
          obtain ⟨grB, crB, hzB, hfB_, hbB_, hkB_, hnB_, hcB_, _⟩ := mx_atm (m := n) SL.out x HX0.out HX1.out (HSL.out.at _ HX0.out HX1.out) (by have := HM.out; omega)
          obtain ⟨hvB0, hfB0⟩ := hcB_ y HY0.out HY1.out
          have e_ := Option.some.inj (hzB.symm.trans HO.out)
          cases e_
          clear hfB_ hbB_ hkB_ hnB_ hcB_
          go_wp2
          obtain ⟨hst, _, hbs_⟩ := mx_store SL.out x HX0.out HX1.out (HSL.out.at _ HX0.out HX1.out) (by have := HM.out; omega) hzB y (wrap64 (Int.tdiv (iv.gt Lc x y) 2)) HY0.out HY1.out
          have n0_ : Aside0 (Mx 2 22 (World.setCell wr ⟨grA, y.toNat, none⟩ (.int .i64 (wrap64 (Int.tdiv (iv.gt Lc x y) 2)))) w1.heap.size (fun _ => True) (.slice (some ⟨gL, 0, none⟩) n cL) (iv.pt Lc x y (wrap64 (Int.tdiv (iv.gt Lc x y) 2)))) := ⟨hst⟩
          have n1_ : Aside0 (World.cell? (World.setCell wr ⟨grA, y.toNat, none⟩ (.int .i64 (wrap64 (Int.tdiv (iv.gt Lc x y) 2)))) ⟨gL, x.toNat, none⟩ = some (.slice (some ⟨grA, 0, none⟩) n crA)) := ⟨cell_kept HO.out (Kept.setCell (S := fun k_ => k_ = grA) (Kept.refl _ _) (p := ⟨grA, _, none⟩) (Or.inl rfl) _) (fun h_ => HNA.out h_.symm)⟩
          have n2_ : Aside0 (Below w1.heap.size w1 (World.setCell wr ⟨grA, y.toNat, none⟩ (.int .i64 (wrap64 (Int.tdiv (iv.gt Lc x y) 2))))) := ⟨below_set HB2.out hbs_⟩
          have n3_ : Aside0 (iv.Sq n (iv.pt Lc x y (wrap64 (Int.tdiv (iv.gt Lc x y) 2)))) := ⟨HSL.out.pt _ _ _ HX0.out HX1.out⟩
          clear SL HB2 HSL HO hst hbs_ hzB hvB0 hfB0
          generalize (World.setCell wr ⟨grA, y.toNat, none⟩ (.int .i64 (wrap64 (Int.tdiv (iv.gt Lc x y) 2)))) = w8 at n0_ n1_ n2_ ⊢
          have SL := n0_
          have HO := n1_
          have HB2 := n2_
          have HSL := n3_
          clear n0_ n1_ n2_ n3_
          try go_wp2
          go_roundg k2
          case measure => omega
          case rel =>
            have HW := Aside0.mk (show wrap64 (y + 1) = y + 1 by have := HY0.out; have := HY1.out; have := HM.out; unfold wrap64; omega)
            exact ⟨_, wrap64 (y + 1), s, (by first | rfl | (simp; done) | (simp [*]; done)), ⟨by have := HQ2.out; omega⟩, ⟨by have := HY.out; rw [HW.out]; omega⟩, ⟨by rw [HW.out]; exact HE.out⟩, HSL, ⟨HO.out⟩, ⟨(by (with_reducible repeat (first | apply Kd.S_alloc | apply Kd.S_drewN | apply Kd.S_drew)); exact SL.out)⟩, ⟨(by repeat (first | (with_reducible first | exact HB2.out | apply below_alloc | apply pw_below_drewN | apply below_drew1) | exact HB2.out))⟩⟩


-- NOT PRINTED: function 29 (laws_markInt64SS)

/-! ### laws_heldInt64S: function 53 -/
def laws_heldInt64S.l0 : Nat → List Int → Int → Int → Option (Int)
  | 0, _, _, _ => none
  | k + 1, x0, x1, x5 => if x5 < (x0.length : Int) then (if 0 ≤ x5 then (if (rd x0 x5) = x1 then (laws_heldInt64S.l0 k x0 (wrap64 (x1 + 1)) (wrap64 (x5 + 1))) else (some (-1))) else (none)) else (some x1)
def laws_heldInt64S.f (k : Nat) (l0 : List Int) (a1 : Int) : Option (Int) := laws_heldInt64S.l0 k l0 a1 0
theorem laws_heldInt64S.mono_l : ∀ k, (∀ y0 y1 y2, LeO (laws_heldInt64S.l0 k y0 y1 y2) (laws_heldInt64S.l0 (k + 1) y0 y1 y2))
  | 0 => fun _ _ _ r h => by simp [laws_heldInt64S.l0] at h
  | k + 1 => by
    have ih0 := laws_heldInt64S.mono_l k
    · intro y0 y1 y2
      unfold laws_heldInt64S.l0
      repeat' first
      | (with_reducible exact ih0 _ _ _)
      | (with_reducible exact LeO.refl _)
      | (with_reducible exact LeO.none _)
      | (with_reducible refine LeO.ite ?_ ?_)
      | (with_reducible refine LeO.bind ?_ (fun _ => ?_))
      | exact ih0 _ _ _
      | exact LeO.none _
      | refine LeO.ite ?_ ?_
      | refine LeO.bind ?_ (fun _ => ?_)
theorem laws_heldInt64S.mono : ∀ a0 a1 k, LeO (laws_heldInt64S.f k a0 a1) (laws_heldInt64S.f (k + 1) a0 a1) := by
  intro a0 a1 k
  have ih0 := laws_heldInt64S.mono_l k
  unfold laws_heldInt64S.f
  repeat' first
      | (with_reducible exact ih0 _ _ _)
      | (with_reducible exact LeO.refl _)
      | (with_reducible exact LeO.none _)
      | (with_reducible refine LeO.ite ?_ ?_)
      | (with_reducible refine LeO.bind ?_ (fun _ => ?_))
      | exact ih0 _ _ _
      | exact LeO.none _
      | refine LeO.ite ?_ ?_
      | refine LeO.bind ?_ (fun _ => ?_)
set_option maxHeartbeats 8000000 in
set_option maxRecDepth 100000 in
theorem laws_heldInt64S.calls (k : Nat) (A0 : Option Addr) (c0 : Nat) (l0 : List Int) (a1 : Int) (r : Int) (w : World) (hr0 : Kd.C (Kd.int .i64) w A0 l0.length l0) (hc0 : l0.length ≤ c0) (h : laws_heldInt64S.f k l0 a1 = some r) :
    Calls Try.prog 53 #[.slice A0 l0.length c0, .int .i64 a1] w fun e w' => e = .returned (.int .i64 r) ∧ Drawn0 w w' := by
  have HR0 := Aside0.mk hr0
  have HC0 := Aside0.mk hc0
  clear hr0 hc0
  have H : (laws_heldInt64S.l0 k l0 a1 0) = some r := h
  clear h
  have H' := Aside0.mk H
  clear H
  go_enter Try.func53, Try.ntmps53
  go_wp2
  go_loopg [1, 5] k (fun kq v1 v5 w' => ∃ (x1_1 : Int) (x5_1 : Int), v1 = .int .i64 x1_1 ∧ v5 = .int .i64 x5_1 ∧ Aside0 (laws_heldInt64S.l0 kq l0 x1_1 x5_1 = some r) ∧ Aside0 (kq ≤ k) ∧ Drawn0 w w')
  case atStart => exact ⟨(a1), (0), (by first | rfl | (simp; done) | (simp [*]; done)), (by first | rfl | (simp; done) | (simp [*]; done)), H', ⟨Nat.le_refl _⟩, by repeat (first | exact Drawn0.refl _ | apply Drawn0.step)⟩
  case round =>
    clear H'
    try clear p2
    obtain ⟨x1_1, x5_1, rfl, rfl, HA, HK1, ⟨m1, rfl⟩⟩ := hrel
    cases gk with
    | zero => exact absurd HA.out (by simp [laws_heldInt64S.l0])
    | succ k1 =>
      have H := HA.out
      clear HA
      simp only [laws_heldInt64S.l0] at H
      by_cases c3 : x5_1 < (l0.length : Int)
      · rw [if_pos c3] at H
        have c3b0 : decide (x5_1 < (l0.length : Int)) = true := decide_eq_true c3
        clear c3
        by_cases c4 : 0 ≤ x5_1
        · rw [if_pos c4] at H
          have c4b0 : decide (0 ≤ x5_1) = true := decide_eq_true c4
          clear c4
          by_cases c5 : (rd l0 x5_1) = x1_1
          · rw [if_pos c5] at H
            have c5b0 : ((rd l0 x5_1) == x1_1) = true := beq_iff_eq.mpr c5
            have c5b1 : ((rd l0 x5_1) != x1_1) = false := bne_eq_false_iff_eq.mpr c5
            clear c5
            have H' := Aside0.mk H
            clear H
            have p182 : 0 ≤ (x5_1 : Int) := of_decide_eq_true (by first | (with_reducible assumption) | assumption)
            have q182 : x5_1 < (l0.length : Int) := of_decide_eq_true (by first | (with_reducible assumption) | assumption)
            obtain ⟨ad182, e182, hx182_0⟩ := Kd.at_int HR0.out x5_1 p182 q182
            cases e182
            replace p182 := eq_true p182
            replace q182 := eq_true q182
            go_wp2
            go_roundg k1
            case measure => have := HK1.out; omega
            case rel => exact ⟨(wrap64 (x1_1 + 1)), (wrap64 (x5_1 + 1)), (by first | rfl | (simp; done) | (simp [*]; done)), (by first | rfl | (simp; done) | (simp [*]; done)), H', ⟨by have := HK1.out; omega⟩, by repeat (first | exact Drawn0.refl _ | apply Drawn0.step)⟩
          · rw [if_neg c5] at H
            have c5b0 : ((rd l0 x5_1) == x1_1) = false := beq_eq_false_iff_ne.mpr c5
            have c5b1 : ((rd l0 x5_1) != x1_1) = true := bne_iff_ne.mpr c5
            obtain rfl := Option.some.inj H
            have p182 : 0 ≤ (x5_1 : Int) := of_decide_eq_true (by first | (with_reducible assumption) | assumption)
            have q182 : x5_1 < (l0.length : Int) := of_decide_eq_true (by first | (with_reducible assumption) | assumption)
            obtain ⟨ad182, e182, hx182_0⟩ := Kd.at_int HR0.out x5_1 p182 q182
            cases e182
            replace p182 := eq_true p182
            replace q182 := eq_true q182
            go_wp2
            go_ret
            exact ⟨by first | rfl | (simp; done) | (simp [*]; done), by repeat (first | exact Drawn0.refl _ | apply Drawn0.step)⟩
        · rw [if_neg c4] at H
          exact absurd H (by simp)
      · rw [if_neg c3] at H
        have c3b0 : decide (x5_1 < (l0.length : Int)) = false := decide_eq_false c3
        clear c3
        obtain rfl := Option.some.inj H
        go_wp2
        go_ret
        exact ⟨by first | rfl | (simp; done) | (simp [*]; done), by repeat (first | exact Drawn0.refl _ | apply Drawn0.step)⟩

/-! ### laws_heldInt64SS: function 30 -/
def laws_heldInt64SS.l0 : Nat → List (List Int) → Int → Int → Option (Int)
  | 0, _, _, _ => none
  | k + 1, x0, x1, x5 => if x5 < (x0.length : Int) then (if 0 ≤ x5 then ((laws_heldInt64S.f k (rd_L1 x0 x5) x1).bind fun t184 => (if t184 < 0 then (some (-1)) else (laws_heldInt64SS.l0 k x0 t184 (wrap64 (x5 + 1))))) else (none)) else (some x1)
def laws_heldInt64SS.f (k : Nat) (l0 : List (List Int)) (a1 : Int) : Option (Int) := laws_heldInt64SS.l0 k l0 a1 0
theorem laws_heldInt64SS.mono_l : ∀ k, (∀ y0 y1 y2, LeO (laws_heldInt64SS.l0 k y0 y1 y2) (laws_heldInt64SS.l0 (k + 1) y0 y1 y2))
  | 0 => fun _ _ _ r h => by simp [laws_heldInt64SS.l0] at h
  | k + 1 => by
    have ih0 := laws_heldInt64SS.mono_l k
    · intro y0 y1 y2
      unfold laws_heldInt64SS.l0
      repeat' first
      | (with_reducible exact ih0 _ _ _)
      | (with_reducible exact laws_heldInt64S.mono _ _ _)
      | (with_reducible exact LeO.refl _)
      | (with_reducible exact LeO.none _)
      | (with_reducible refine LeO.ite ?_ ?_)
      | (with_reducible refine LeO.bind ?_ (fun _ => ?_))
      | exact ih0 _ _ _
      | exact laws_heldInt64S.mono _ _ _
      | exact LeO.none _
      | refine LeO.ite ?_ ?_
      | refine LeO.bind ?_ (fun _ => ?_)
theorem laws_heldInt64SS.mono : ∀ a0 a1 k, LeO (laws_heldInt64SS.f k a0 a1) (laws_heldInt64SS.f (k + 1) a0 a1) := by
  intro a0 a1 k
  have ih0 := laws_heldInt64SS.mono_l k
  unfold laws_heldInt64SS.f
  repeat' first
      | (with_reducible exact ih0 _ _ _)
      | (with_reducible exact laws_heldInt64S.mono _ _ _)
      | (with_reducible exact LeO.refl _)
      | (with_reducible exact LeO.none _)
      | (with_reducible refine LeO.ite ?_ ?_)
      | (with_reducible refine LeO.bind ?_ (fun _ => ?_))
      | exact ih0 _ _ _
      | exact laws_heldInt64S.mono _ _ _
      | exact LeO.none _
      | refine LeO.ite ?_ ?_
      | refine LeO.bind ?_ (fun _ => ?_)
set_option maxHeartbeats 8000000 in
set_option maxRecDepth 100000 in
theorem laws_heldInt64SS.calls (k : Nat) (A0 : Option Addr) (c0 : Nat) (l0 : List (List Int)) (a1 : Int) (r : Int) (w : World) (hr0 : Kd.C (Kd.slice 2 (Kd.int .i64)) w A0 l0.length l0) (hc0 : l0.length ≤ c0) (h : laws_heldInt64SS.f k l0 a1 = some r) :
    Calls Try.prog 30 #[.slice A0 l0.length c0, .int .i64 a1] w fun e w' => e = .returned (.int .i64 r) ∧ Drawn0 w w' := by
  have HR0 := Aside0.mk hr0
  have HC0 := Aside0.mk hc0
  clear hr0 hc0
  have H : (laws_heldInt64SS.l0 k l0 a1 0) = some r := h
  clear h
  have H' := Aside0.mk H
  clear H
  go_enter Try.func30, Try.ntmps30
  go_wp2
  go_loopg [1, 5] k (fun kq v1 v5 w' => ∃ (x1_1 : Int) (x5_1 : Int), v1 = .int .i64 x1_1 ∧ v5 = .int .i64 x5_1 ∧ Aside0 (laws_heldInt64SS.l0 kq l0 x1_1 x5_1 = some r) ∧ Aside0 (kq ≤ k) ∧ Drawn0 w w')
  case atStart => exact ⟨(a1), (0), (by first | rfl | (simp; done) | (simp [*]; done)), (by first | rfl | (simp; done) | (simp [*]; done)), H', ⟨Nat.le_refl _⟩, by repeat (first | exact Drawn0.refl _ | apply Drawn0.step)⟩
  case round =>
    clear H'
    try clear p2
    obtain ⟨x1_1, x5_1, rfl, rfl, HA, HK1, ⟨m1, rfl⟩⟩ := hrel
    cases gk with
    | zero => exact absurd HA.out (by simp [laws_heldInt64SS.l0])
    | succ k1 =>
      have H := HA.out
      clear HA
      simp only [laws_heldInt64SS.l0] at H
      by_cases c3 : x5_1 < (l0.length : Int)
      · rw [if_pos c3] at H
        have c3b0 : decide (x5_1 < (l0.length : Int)) = true := decide_eq_true c3
        clear c3
        by_cases c4 : 0 ≤ x5_1
        · rw [if_pos c4] at H
          have c4b0 : decide (0 ≤ x5_1) = true := decide_eq_true c4
          clear c4
          replace H := Option.bind_eq_some_iff.mp H
          obtain ⟨t184, A50, H⟩ := H
          replace H : (if t184 < 0 then (some (-1)) else (laws_heldInt64SS.l0 k1 l0 t184 (wrap64 (x5_1 + 1)))) = some r := H
          have A5 := Aside0.mk A50
          clear A50
          by_cases c6 : t184 < 0
          · rw [if_pos c6] at H
            have c6b0 : decide (t184 < 0) = true := decide_eq_true c6
            clear c6
            obtain rfl := Option.some.inj H
            have p183 : 0 ≤ (x5_1 : Int) := of_decide_eq_true (by first | (with_reducible assumption) | assumption)
            have q183 : x5_1 < (l0.length : Int) := of_decide_eq_true (by first | (with_reducible assumption) | assumption)
            obtain ⟨ad183, A183_0, c183_0, e183, hx183_0, hl183_0, hi183_0⟩ := at_L1 HR0.out x5_1 p183 q183
            cases e183
            have HR183_0 := Aside0.mk hi183_0
            have HC183_0 := Aside0.mk hl183_0
            clear hi183_0 hl183_0
            replace p183 := eq_true p183
            replace q183 := eq_true q183
            go_wp2_with (first | ((with_reducible refine gate_callee (f := 53) rfl ?_); refine goesL_ (some 17) rfl rfl Try.func53 (by kernel_rfl) rfl #[.slice A183_0 (rd_L1 l0 x5_1).length c183_0, .int .i64 x1_1] rfl (by (try simp only [List.map_toArray, List.map_cons, List.map_nil]); first | done | rfl | (simp only [List.length_drop, List.length_take]; rfl)) ?_; (with_reducible refine (laws_heldInt64S.calls k1 _ _ (rd_L1 l0 x5_1) x1_1 t184 _ ?side1 ?side2 A5.out).mono ?_); (case side1 => repeat (first | exact HR183_0.out | (with_reducible refine Kd.C_alloc ?_ _) | (with_reducible refine Kd.C_drewN ?_ _) | (with_reducible refine Kd.C_drew ?_))); (case side2 => exact HC183_0.out); rintro e w' ⟨rfl, ⟨nd, rfl⟩⟩; refine ⟨_, rfl, ?_⟩))
            go_ret
            exact ⟨by first | rfl | (simp; done) | (simp [*]; done), by repeat (first | exact Drawn0.refl _ | apply Drawn0.step)⟩
          · rw [if_neg c6] at H
            have c6b0 : decide (t184 < 0) = false := decide_eq_false c6
            clear c6
            have H' := Aside0.mk H
            clear H
            have p183 : 0 ≤ (x5_1 : Int) := of_decide_eq_true (by first | (with_reducible assumption) | assumption)
            have q183 : x5_1 < (l0.length : Int) := of_decide_eq_true (by first | (with_reducible assumption) | assumption)
            obtain ⟨ad183, A183_0, c183_0, e183, hx183_0, hl183_0, hi183_0⟩ := at_L1 HR0.out x5_1 p183 q183
            cases e183
            have HR183_0 := Aside0.mk hi183_0
            have HC183_0 := Aside0.mk hl183_0
            clear hi183_0 hl183_0
            replace p183 := eq_true p183
            replace q183 := eq_true q183
            go_wp2_with (first | ((with_reducible refine gate_callee (f := 53) rfl ?_); refine goesL_ (some 17) rfl rfl Try.func53 (by kernel_rfl) rfl #[.slice A183_0 (rd_L1 l0 x5_1).length c183_0, .int .i64 x1_1] rfl (by (try simp only [List.map_toArray, List.map_cons, List.map_nil]); first | done | rfl | (simp only [List.length_drop, List.length_take]; rfl)) ?_; (with_reducible refine (laws_heldInt64S.calls k1 _ _ (rd_L1 l0 x5_1) x1_1 t184 _ ?side1 ?side2 A5.out).mono ?_); (case side1 => repeat (first | exact HR183_0.out | (with_reducible refine Kd.C_alloc ?_ _) | (with_reducible refine Kd.C_drewN ?_ _) | (with_reducible refine Kd.C_drew ?_))); (case side2 => exact HC183_0.out); rintro e w' ⟨rfl, ⟨nd, rfl⟩⟩; refine ⟨_, rfl, ?_⟩))
            go_roundg k1
            case measure => have := HK1.out; omega
            case rel => exact ⟨(t184), (wrap64 (x5_1 + 1)), (by first | rfl | (simp; done) | (simp [*]; done)), (by first | rfl | (simp; done) | (simp [*]; done)), H', ⟨by have := HK1.out; omega⟩, by repeat (first | exact Drawn0.refl _ | apply Drawn0.step)⟩
        · rw [if_neg c4] at H
          exact absurd H (by simp)
      · rw [if_neg c3] at H
        have c3b0 : decide (x5_1 < (l0.length : Int)) = false := decide_eq_false c3
        clear c3
        obtain rfl := Option.some.inj H
        go_wp2
        go_ret
        exact ⟨by first | rfl | (simp; done) | (simp [*]; done), by repeat (first | exact Drawn0.refl _ | apply Drawn0.step)⟩

-- NOT PRINTED: function 6 (laws_FnExactLinkingsOf)

end Go.Proofs.Ytcbomfkimohlfaa.MFnExactLinkingsOf
