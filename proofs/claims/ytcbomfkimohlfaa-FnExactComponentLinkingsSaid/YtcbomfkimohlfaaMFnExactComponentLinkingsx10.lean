-- Walks of the functions that a law reaches, one after the other: plain functions, and that the machine's calls come to what they tell (wip/tools/myprint.py of this repo).
import Derived.Test.YtcbomfkimohlfaaMFnExactComponentLinkingsx0
import Derived.Test.YtcbomfkimohlfaaMFnExactComponentLinkingsx5
import Derived.Test.YtcbomfkimohlfaaMFnExactComponentLinkingsx6
import Derived.Test.YtcbomfkimohlfaaMFnExactComponentLinkingsx9
import Derived.Test.YtcbomfkimohlfaaLibArr
import Derived.Test.YtcbomfkimohlfaaLibMx
import Derived.Test.YtcbomfkimohlfaaLibCr
import Derived.Test.YtcbomfkimohlfaaLibCl
namespace Go.Proofs.Ytcbomfkimohlfaa.MFnExactComponentLinkings
open Go.RowKit Go.Proofs.YtcbomfkimohlfaaW.PrintWords Go.Proofs.YtcbomfkimohlfaaW.PrintLast Go.Proofs.YtcbomfkimohlfaaW.PrintMore
open Go.Proofs.Ytcbomfkimohlfaa.LibCl
open Go.Proofs.Ytcbomfkimohlfaa.LibCr
open Go.Proofs.Ytcbomfkimohlfaa.LibMx
open Go.Proofs.Ytcbomfkimohlfaa.LibArr
attribute [local go_sem] max2_int min2_int max_two min_two max_three min_three max_four min_four   -- for this text's walks alone
set_option linter.unusedVariables false
set_option linter.unusedSimpArgs false

/-! ### impl_ComponentLinkings: function 42 -/
def impl_ComponentLinkings.f (k : Nat) (a0_0 : Int) (l0_1 : List Int) : Option (List (List Int) × Int) := (impl_CrossingsOf.f k a0_0 l0_1).bind fun r => if r.2 = 0 then (impl_componentsOf.f k a0_0 l0_1).bind fun O => (impl_zeroRows.f k (O.length : Int)).bind fun Z => if (iv.Sq r.1.length r.1 ∧ 1 ≤ r.1.length ∧ r.1.length ≤ 8) ∧ (1 ≤ O.length ∧ O.length ≤ 8) ∧ iv.Sq O.length Z ∧ cl.okO r.1.length O then some (cl.li r.1 O O.length O.length 0 Z, 0) else none else some ([], r.2)
theorem impl_ComponentLinkings.mono : ∀ a0 a1 k, LeO (impl_ComponentLinkings.f k a0 a1) (impl_ComponentLinkings.f (k + 1) a0 a1) := by
 intro a0 a1 k
 unfold impl_ComponentLinkings.f
 exact LeO.bind (impl_CrossingsOf.mono _ _ _) (fun _ => LeO.ite (LeO.bind (impl_componentsOf.mono _ _ _) (fun _ => LeO.bind (impl_zeroRows.mono _ _) (fun _ => LeO.refl _))) (LeO.refl _))
def impl_ComponentLinkings.T18 : Bool × List (List Nat × List Nat) := (true, [([], []), ([], []), ([0, 1], [0, 1]), ([2], [2]), ([], []), ([3, 4], [3, 4]), ([5], [5]), ([], []), ([], []), ([7, 8], [7, 8]), ([9], [9]), ([], []), ([10, 11], [10, 11]), ([12], [12]), ([6, 13], [6, 13]), ([3, 4, 0, 1, 2, 3, 4, 5, 6, 7, 8, 9, 10, 11, 12, 13, 14], [3, 4]), ([15, 14, 0, 1, 2, 3, 4, 5, 6, 7, 8, 9, 10, 11, 12, 13, 14], [14, 15])])
def impl_ComponentLinkings.B18 : List Nat := [0, 0, 3, 7, 0, 31, 63, 0, 0, 384, 896, 0, 3968, 8064, 16383, 32767, 65535]
theorem impl_ComponentLinkings.tab18 : rtab .any (opsOf Try.f42 18) = impl_ComponentLinkings.T18 := by kernel_rfl
theorem impl_ComponentLinkings.bits18 : waitsOk impl_ComponentLinkings.T18.2 impl_ComponentLinkings.B18 = true := by kernel_rfl
set_option maxHeartbeats 8000000 in
set_option maxRecDepth 100000 in
theorem impl_ComponentLinkings.calls (k : Nat) (a0_0 : Int) (A0_1 : Option Addr) (c0_1 : Nat) (l0_1 : List Int) (r1 : List (List Int)) (r2 : Int) (w : World) (hr0_1 : Kd.C (Kd.int .i64) w A0_1 l0_1.length l0_1) (hc0_1 : l0_1.length ≤ c0_1) (h : impl_ComponentLinkings.f k a0_0 l0_1 = some (r1, r2)) :
  Calls Try.prog 42 #[.agg #[.int .i64 a0_0, .slice A0_1 l0_1.length c0_1]] w fun e w' => ∃ v0_ : Value, e = .returned (.tuple #[v0_, .int .i64 r2]) ∧ Kd.S (Kd.slice 2 (Kd.int .i64)) 22 w' w.heap.size (fun _ => True) v0_ r1 ∧ Below w.heap.size w w' := by
 have hu := Try.underlying26
 have HR0 := Aside0.mk hr0_1
 have HC0 := Aside0.mk hc0_1
 clear hr0_1 hc0_1
 have HB := Aside0.mk (Below.refl w.heap.size w)
 have H0 := h
 clear h
 unfold impl_ComponentLinkings.f at H0
 obtain ⟨⟨C, rc⟩, A1_, H1⟩ := Option.bind_eq_some_iff.mp H0
 clear H0
 have A1 := Aside0.mk A1_
 clear A1_
 simp only at H1
 by_cases hc : rc = 0
 case neg =>
  rw [if_neg hc, Option.some.injEq, Prod.mk.injEq] at H1
  obtain ⟨rfl, rfl⟩ := H1
  have cb0 : (rc == 0) = false := beq_eq_false_iff_ne.mpr hc
  have cb1 : (rc != 0) = true := bne_iff_ne.mpr hc
  clear hc
  go_enter Try.func42, Try.ntmps42
  go_wp2_with (first | ((with_reducible refine gate_dst (N := 1) rfl ?_); refine box_event ?hg (N := 1) ?hd (cs := #[.int .i64 a0_0, .slice A0_1 l0_1.length c0_1]) (t := 26) ?hr ?_; (case hd => rfl); (case hg => rfl); (case hr => first | (go_simp; done) | (go_simp; rfl)); intro gb hg w1 hbox hb; have n_ := Aside0.mk (below_step (by repeat (first | (with_reducible first | exact HB.out | apply below_alloc | apply pw_below_drewN | apply below_drew1) | exact HB.out)) hb); clear HB; have HB := n_; clear n_; have HCB0 := Aside0.mk ((blk_cell hbox 0).trans rfl); have HCB1 := Aside0.mk ((blk_cell hbox 1).trans rfl); have HB2 := Aside0.mk (Below.refl w1.heap.size w1); have HRA := Aside0.mk (Kd.C_below HR0.out HB.out); clear hg hb; have hzgb_0 := (blk_cell hbox 0).trans rfl; have hzgb_1 := (blk_cell hbox 1).trans rfl; clear hbox) | ((with_reducible refine gate_callee (f := 67) rfl ?_); refine goesL_ (some 18) rfl rfl Try.func67 (by kernel_rfl) rfl #[.agg #[.int .i64 a0_0, .slice A0_1 l0_1.length c0_1]] rfl (by (try simp only [List.map_toArray, List.map_cons, List.map_nil]); first | done | rfl) ?_; (with_reducible refine (impl_CrossingsOf.calls k a0_0 _ _ l0_1 C rc _ ?side1 ?side2 A1.out).mono ?_); (case side1 => repeat (first | exact (Kd.C_below HRA.out HB2.out) | (with_reducible refine Kd.C_alloc ?_ _) | (with_reducible refine Kd.C_drewN ?_ _) | (with_reducible refine Kd.C_drew ?_))); (case side2 => exact HC0.out); rintro e wz ⟨vZ, rfl, ho0, hb⟩; refine ⟨_, rfl, ?_⟩; have n_ := Aside0.mk (below_step (by repeat (first | (with_reducible first | exact HB2.out | apply below_alloc | apply pw_below_drewN | apply below_drew1) | exact HB2.out)) hb); clear HB2; have HB2 := n_; clear n_; clear hb ho0; (try clear hzgb_0 hzgb_1); have hzgb_0 := (HB2.out.cell (World.block_lt_of_cell? w1 _ HCB0.out)).trans HCB0.out; have hzgb_1 := (HB2.out.cell (World.block_lt_of_cell? w1 _ HCB1.out)).trans HCB1.out))
  go_ret2
  exact ⟨_, rfl, Kd.S_nil _ _ _ _ _, below_step HB.out (by repeat (first | (with_reducible first | exact HB2.out | apply below_alloc | apply pw_below_drewN | apply below_drew1) | exact HB2.out))⟩
 subst hc
 rw [if_pos rfl] at H1
 obtain ⟨O, A2_, H2⟩ := Option.bind_eq_some_iff.mp H1
 clear H1
 obtain ⟨Z, A3_, H3⟩ := Option.bind_eq_some_iff.mp H2
 clear H2
 by_cases hg : (iv.Sq C.length C ∧ 1 ≤ C.length ∧ C.length ≤ 8) ∧ (1 ≤ O.length ∧ O.length ≤ 8) ∧ iv.Sq O.length Z ∧ cl.okO C.length O
 case neg => rw [if_neg hg] at H3; cases H3
 rw [if_pos hg, Option.some.injEq, Prod.mk.injEq] at H3
 obtain ⟨e1_, e2_⟩ := H3
 subst e2_
 obtain ⟨n, hn⟩ : ∃ n, C.length = n := ⟨_, rfl⟩
 obtain ⟨c, hc⟩ : ∃ c, O.length = c := ⟨_, rfl⟩
 have HCL := Aside0.mk hn
 have HOL := Aside0.mk hc
 rw [hn, hc] at hg
 rw [hc] at e1_ A3_
 have HM : Aside0 (1 ≤ n ∧ n ≤ 8) := ⟨hg.1.2⟩
 have HC8 : Aside0 (1 ≤ c ∧ c ≤ 8) := ⟨hg.2.1⟩
 have HSC := Aside0.mk hg.1.1
 have HSL := Aside0.mk hg.2.2.1
 have HOO := Aside0.mk hg.2.2.2
 have HLI := Aside0.mk e1_
 have A2 := Aside0.mk A2_
 have A3 := Aside0.mk A3_
 clear hg e1_ hn hc A2_ A3_
 go_enter Try.func42, Try.ntmps42
 go_wp2_with (first | ((with_reducible refine gate_dst (N := 1) rfl ?_); refine box_event ?hg (N := 1) ?hd (cs := #[.int .i64 a0_0, .slice A0_1 l0_1.length c0_1]) (t := 26) ?hr ?_; (case hd => rfl); (case hg => rfl); (case hr => first | (go_simp; done) | (go_simp; rfl)); intro gb hg w1 hbox hb; have n_ := Aside0.mk (below_step (by repeat (first | (with_reducible first | exact HB.out | apply below_alloc | apply pw_below_drewN | apply below_drew1) | exact HB.out)) hb); clear HB; have HB := n_; clear n_; have HCB0 := Aside0.mk ((blk_cell hbox 0).trans rfl); have HCB1 := Aside0.mk ((blk_cell hbox 1).trans rfl); have HB2 := Aside0.mk (Below.refl w1.heap.size w1); have HRA := Aside0.mk (Kd.C_below HR0.out HB.out); clear hg hb; have hzgb_0 := (blk_cell hbox 0).trans rfl; have hzgb_1 := (blk_cell hbox 1).trans rfl; clear hbox) | ((with_reducible refine gate_callee (f := 67) rfl ?_); refine goesL_ (some 18) rfl rfl Try.func67 (by kernel_rfl) rfl #[.agg #[.int .i64 a0_0, .slice A0_1 l0_1.length c0_1]] rfl (by (try simp only [List.map_toArray, List.map_cons, List.map_nil]); first | done | rfl) ?_; (with_reducible refine (impl_CrossingsOf.calls k a0_0 _ _ l0_1 C 0 _ ?side1 ?side2 A1.out).mono ?_); (case side1 => repeat (first | exact (Kd.C_below HRA.out HB2.out) | (with_reducible refine Kd.C_alloc ?_ _) | (with_reducible refine Kd.C_drewN ?_ _) | (with_reducible refine Kd.C_drew ?_))); (case side2 => exact HC0.out); rintro e wz ⟨vZ, rfl, ho0, hb⟩; refine ⟨_, rfl, ?_⟩; obtain ⟨gC, cC, eC, _, _, _⟩ := Kd.S_form ho0 (by rw [HCL.out]; have := HM.out; omega); rw [HCL.out] at eC; subst eC; have SC := Aside0.mk (Kd.S_lower ho0 (below_size (by repeat (first | (with_reducible first | exact HB2.out | apply below_alloc | apply pw_below_drewN | apply below_drew1) | exact HB2.out)))); have n_ := Aside0.mk (below_step (by repeat (first | (with_reducible first | exact HB2.out | apply below_alloc | apply pw_below_drewN | apply below_drew1) | exact HB2.out)) hb); clear HB2; have HB2 := n_; clear n_; clear hb ho0; (try clear hzgb_0 hzgb_1); have hzgb_0 := (HB2.out.cell (World.block_lt_of_cell? w1 _ HCB0.out)).trans HCB0.out; have hzgb_1 := (HB2.out.cell (World.block_lt_of_cell? w1 _ HCB1.out)).trans HCB1.out) | ((with_reducible refine gate_callee (f := 84) rfl ?_); refine goesL_ (some 25) rfl rfl Try.func84 (by kernel_rfl) rfl #[.agg #[.int .i64 a0_0, .slice A0_1 l0_1.length c0_1]] rfl (by (try simp only [List.map_toArray, List.map_cons, List.map_nil]); first | done | rfl) ?_; (with_reducible refine (impl_componentsOf.calls k a0_0 _ _ l0_1 O _ ?side1 ?side2 A2.out).mono ?_); (case side1 => repeat (first | exact (Kd.C_below HRA.out HB2.out) | (with_reducible refine Kd.C_alloc ?_ _) | (with_reducible refine Kd.C_drewN ?_ _) | (with_reducible refine Kd.C_drew ?_))); (case side2 => exact HC0.out); rintro e w3 ⟨vO, rfl, ho0, hb⟩; refine ⟨_, rfl, ?_⟩; obtain ⟨gO, cO, eO, _, _, _⟩ := Kd.S_form ho0 (by rw [HOL.out]; have := HC8.out; omega); rw [HOL.out] at eO; subst eO; have n_ := Aside0.mk (Kd.S_below (by (with_reducible repeat (first | apply Kd.S_alloc | apply Kd.S_drewN | apply Kd.S_drew)); exact SC.out) hb); clear SC; have SC := n_; clear n_; have HRO0 := (Kd.S_reads' ho0).2.2; rw [HOL.out] at HRO0; have HRO := Aside0.mk HRO0; have HBW := Aside0.mk (below_step HB.out (below_step (by repeat (first | (with_reducible first | exact HB2.out | apply below_alloc | apply pw_below_drewN | apply below_drew1) | exact HB2.out)) hb)); have HB3 := Aside0.mk (Below.refl w3.heap.size w3); clear hb ho0 HRO0 HB2 HB HRA hzgb_0 hzgb_1) | ((with_reducible refine gate_callee (f := 72) rfl ?_); refine goesL_ (some 28) rfl rfl Try.func72 (by kernel_rfl) rfl #[.int .i64 (c : Int)] rfl (by (try simp only [List.map_toArray, List.map_cons, List.map_nil]); first | done | rfl) ?_; (with_reducible refine (impl_zeroRows.calls k (c : Int) Z _ A3.out).mono ?_); rintro e w4 ⟨vL, rfl, ho0, hb⟩; refine ⟨_, rfl, ?_⟩; obtain ⟨gL, cL, eL, _, _, _⟩ := Kd.S_form ho0 (by rw [HSL.out.1]; have := HC8.out; omega); rw [HSL.out.1] at eL; subst eL; have SL := Aside0.mk (Kd.S_lower ho0 (below_size (by repeat (first | (with_reducible first | exact HB3.out | apply below_alloc | apply pw_below_drewN | apply below_drew1) | exact HB3.out)))); have n_ := Aside0.mk (below_step (by repeat (first | (with_reducible first | exact HB3.out | apply below_alloc | apply pw_below_drewN | apply below_drew1) | exact HB3.out)) hb); clear HB3; have HB3 := n_; clear n_; clear hb ho0))
 go_loopg [31] 30 (fun kq va wr => ∃ (L : List (List Int)) (i : Int) (q : Nat), va = .int .i64 i ∧ Aside0 (q < kq) ∧ Aside0 ((q : Int) + i = (c : Int) ∧ 0 ≤ i) ∧ Aside0 (cl.li C O c q i L = r1) ∧ Aside0 (iv.Sq c L) ∧ Aside0 (Mx 2 22 wr w3.heap.size (fun _ => True) (.slice (some ⟨gL, 0, none⟩) c cL) L) ∧ Aside0 (Below w3.heap.size w3 wr))
 case atStart => exact ⟨Z, 0, c, (by first | rfl | (simp; done) | (simp [*]; done)), ⟨by have := HC8.out; omega⟩, ⟨by omega⟩, HLI, HSL, ⟨(by (with_reducible repeat (first | apply Kd.S_alloc | apply Kd.S_drewN | apply Kd.S_drew)); exact SL.out)⟩, ⟨(by repeat (first | (with_reducible first | exact HB3.out | apply below_alloc | apply pw_below_drewN | apply below_drew1) | exact HB3.out))⟩⟩
 case round =>
  clear SL HB3 HSL HLI
  obtain ⟨L, i, q, rfl, HQ, HX, HA, HSL, SL, HB3⟩ := hrel
  cases gk with
  | zero => exact absurd HQ.out (Nat.not_lt_zero _)
  | succ k1 =>
  cases q with
  | zero =>
   have cib : decide (i < (c : Int)) = false := decide_eq_false (by have := HX.out; omega)
   have e_ := HA.out
   simp only [cl.li] at e_
   subst e_
   go_wp2
   go_ret2
   exact ⟨_, rfl, Kd.S_lower (by (with_reducible repeat (first | apply Kd.S_alloc | apply Kd.S_drewN | apply Kd.S_drew)); exact SL.out) (below_size HBW.out), below_step HBW.out (by repeat (first | (with_reducible first | exact HB3.out | apply below_alloc | apply pw_below_drewN | apply below_drew1) | exact HB3.out))⟩
  | succ q =>
   have h0_ : 0 ≤ i := by have := HX.out; omega
   have h1_ : i < (c : Int) := by have := HX.out; omega
   have cib : decide (i < (c : Int)) = true := decide_eq_true h1_
   have ppi : (0 ≤ i) = True := eq_true h0_
   have qqi : (i < (c : Int)) = True := eq_true h1_
   have Hi0 := Aside0.mk h0_
   have Hi1 := Aside0.mk h1_
   clear h0_ h1_
   have HWI := Aside0.mk (show wrap64 (i + 1) = i + 1 by have := Hi0.out; have := Hi1.out; have := HC8.out; unfold wrap64; omega)
   have HA := HA.out
   unfold cl.li at HA
   obtain ⟨LI, hLI⟩ : ∃ z, cl.lk C O i (O.getD i.toNat []) c 0 L = z := ⟨_, rfl⟩
   rw [hLI] at HA
   have HA := Aside0.mk HA
   obtain ⟨adone, A1, c1, eone, hxone, hlone, hione⟩ := at_L1 HRO.out i Hi0.out Hi1.out
   have eone' : adone = ⟨gO, 0, none⟩ := (by injection eone with e_; exact e_.symm)
   subst eone'
   clear eone
   obtain ⟨one, hone⟩ : ∃ z, rd_L1 O i = z := ⟨_, rfl⟩
   rw [hone] at hxone hlone hione
   have Hone := Aside0.mk hone
   replace hxone := (HB3.out.cell (World.block_lt_of_cell? w3 _ hxone)).trans hxone
   rw [add_plain] at hxone
   have HIone := Aside0.mk hione
   have HOone : Aside0 (one.length ≤ 8 ∧ ∀ x ∈ one, 0 ≤ x ∧ x < (n : Int)) := ⟨by rw [← hone]; unfold rd_L1; rw [List.getD_eq_getElem?_getD, List.getElem?_eq_getElem (by rw [HOL.out]; have := Hi0.out; have := Hi1.out; omega)]; exact HOO.out _ (List.getElem_mem _)⟩
   clear hione hlone hone
   rw [show O.getD i.toNat [] = one from Hone.out] at hLI
   have HLK := Aside0.mk hLI
   clear hLI
   go_wp2
   clear hxone
   go_loopg [38] 30 (fun kq va wr => ∃ (L : List (List Int)) (kk : Int) (s : Nat), va = .int .i64 kk ∧ Aside0 (s < kq) ∧ Aside0 ((s : Int) + kk = (c : Int) ∧ 0 ≤ kk) ∧ Aside0 (cl.lk C O i one s kk L = LI) ∧ Aside0 (iv.Sq c L) ∧ Aside0 (Mx 2 22 wr w3.heap.size (fun _ => True) (.slice (some ⟨gL, 0, none⟩) c cL) L) ∧ Aside0 (Below w3.heap.size w3 wr))
   case atStart => exact ⟨L, 0, c, (by first | rfl | (simp; done) | (simp [*]; done)), ⟨by have := HC8.out; omega⟩, ⟨by omega⟩, HLK, HSL, ⟨(by (with_reducible repeat (first | apply Kd.S_alloc | apply Kd.S_drewN | apply Kd.S_drew)); exact SL.out)⟩, ⟨(by repeat (first | (with_reducible first | exact HB3.out | apply below_alloc | apply pw_below_drewN | apply below_drew1) | exact HB3.out))⟩⟩
   case round =>
    clear SL HB3 HSL HLK
    obtain ⟨L, kk, s, rfl, HQ2, HY, HE, HSL, SL, HB3⟩ := hrel
    cases gk with
    | zero => exact absurd HQ2.out (Nat.not_lt_zero _)
    | succ k2 =>
    cases s with
    | zero =>
     have ckb : decide (kk < (c : Int)) = false := decide_eq_false (by have := HY.out; omega)
     have e_ := HE.out
     simp only [cl.lk] at e_
     subst e_
     go_wp2
     go_roundg k1
     case measure => omega
     case rel => exact ⟨L, wrap64 (i + 1), q, (by first | rfl | (simp; done) | (simp [*]; done)), ⟨by have := HQ.out; omega⟩, ⟨by have := HX.out; rw [HWI.out]; omega⟩, ⟨by rw [HWI.out]; exact HA.out⟩, HSL, ⟨(by (with_reducible repeat (first | apply Kd.S_alloc | apply Kd.S_drewN | apply Kd.S_drew)); exact SL.out)⟩, ⟨(by repeat (first | (with_reducible first | exact HB3.out | apply below_alloc | apply pw_below_drewN | apply below_drew1) | exact HB3.out))⟩⟩
    | succ s =>
     have h0_ : 0 ≤ kk := by have := HY.out; omega
     have h1_ : kk < (c : Int) := by have := HY.out; omega
     have ckb : decide (kk < (c : Int)) = true := decide_eq_true h1_
     have ppk : (0 ≤ kk) = True := eq_true h0_
     have qqk : (kk < (c : Int)) = True := eq_true h1_
     have Hk0 := Aside0.mk h0_
     have Hk1 := Aside0.mk h1_
     clear h0_ h1_
     have HWK := Aside0.mk (show wrap64 (kk + 1) = kk + 1 by have := Hk0.out; have := Hk1.out; have := HC8.out; unfold wrap64; omega)
     have HE := HE.out
     unfold cl.lk at HE
     obtain ⟨adtwo, A2, c2, etwo, hxtwo, hltwo, hitwo⟩ := at_L1 HRO.out kk Hk0.out Hk1.out
     have etwo' : adtwo = ⟨gO, 0, none⟩ := (by injection etwo with e_; exact e_.symm)
     subst etwo'
     clear etwo
     obtain ⟨two, htwo⟩ : ∃ z, rd_L1 O kk = z := ⟨_, rfl⟩
     rw [htwo] at hxtwo hltwo hitwo
     have Htwo := Aside0.mk htwo
     replace hxtwo := (HB3.out.cell (World.block_lt_of_cell? w3 _ hxtwo)).trans hxtwo
     rw [add_plain] at hxtwo
     have HItwo := Aside0.mk hitwo
     have HOtwo : Aside0 (two.length ≤ 8 ∧ ∀ x ∈ two, 0 ≤ x ∧ x < (n : Int)) := ⟨by rw [← htwo]; unfold rd_L1; rw [List.getD_eq_getElem?_getD, List.getElem?_eq_getElem (by rw [HOL.out]; have := Hk0.out; have := Hk1.out; omega)]; exact HOO.out _ (List.getElem_mem _)⟩
     clear hitwo hltwo htwo
     rw [show O.getD kk.toNat [] = two from Htwo.out] at HE
     obtain ⟨LX, hLX⟩ : ∃ z, cl.lx C i kk two one L = z := ⟨_, rfl⟩
     rw [hLX] at HE
     have HE := Aside0.mk HE
     have HLX := Aside0.mk hLX
     clear hLX
     go_wp2
     clear hxtwo
     go_loopg [45] 30 (fun kq va wr => ∃ (L : List (List Int)) (a : Int) (u : Nat), va = .int .i64 a ∧ Aside0 (u < kq) ∧ Aside0 ((u : Int) + a = (one.length : Int) ∧ 0 ≤ a) ∧ Aside0 (cl.lx C i kk two (one.drop a.toNat) L = LX) ∧ Aside0 (iv.Sq c L) ∧ Aside0 (Mx 2 22 wr w3.heap.size (fun _ => True) (.slice (some ⟨gL, 0, none⟩) c cL) L) ∧ Aside0 (Below w3.heap.size w3 wr))
     case atStart => exact ⟨L, 0, one.length, (by first | rfl | (simp; done) | (simp [*]; done)), ⟨by have := HOone.out.1; omega⟩, ⟨by omega⟩, HLX, HSL, ⟨(by (with_reducible repeat (first | apply Kd.S_alloc | apply Kd.S_drewN | apply Kd.S_drew)); exact SL.out)⟩, ⟨(by repeat (first | (with_reducible first | exact HB3.out | apply below_alloc | apply pw_below_drewN | apply below_drew1) | exact HB3.out))⟩⟩
     case round =>
      clear SL HB3 HSL HLX
      obtain ⟨L, a, u, rfl, HQ3, HZ, HF, HSL, SL, HB3⟩ := hrel
      cases gk with
      | zero => exact absurd HQ3.out (Nat.not_lt_zero _)
      | succ k3 =>
      cases u with
      | succ u =>
       have h0_ : 0 ≤ a := by have := HZ.out; omega
       have h1_ : a < (one.length : Int) := by have := HZ.out; omega
       have cab : decide (a < (one.length : Int)) = true := decide_eq_true h1_
       have ppa : (0 ≤ a) = True := eq_true h0_
       have qqa : (a < (one.length : Int)) = True := eq_true h1_
       have Ha0 := Aside0.mk h0_
       have Ha1 := Aside0.mk h1_
       clear h0_ h1_
       have HWA := Aside0.mk (show wrap64 (a + 1) = a + 1 by have := Ha0.out; have := Ha1.out; have := HOone.out.1; unfold wrap64; omega)
       obtain ⟨adA, eA, hza⟩ := Kd.at_int HIone.out a Ha0.out Ha1.out
       subst eA
       replace hza := (HB3.out.cell (World.block_lt_of_cell? w3 _ hza)).trans hza
       have hF := HF.out
       clear HF
       rw [cr.drop_cons one a Ha0.out Ha1.out] at hF
       have hxr := HOone.out.2 (rd one a) (by unfold rd; rw [List.getD_eq_getElem?_getD, List.getElem?_eq_getElem (by have := Ha0.out; have := Ha1.out; omega)]; exact List.getElem_mem _)
       obtain ⟨x, hx⟩ : ∃ z, rd one a = z := ⟨_, rfl⟩
       rw [hx] at hza hF hxr
       clear hx
       unfold cl.lx at hF
       obtain ⟨LY, hLY⟩ : ∃ z, cl.ly C i kk x two L = z := ⟨_, rfl⟩
       rw [hLY] at hF
       have HF := Aside0.mk hF
       have HLY := Aside0.mk hLY
       have HXR := Aside0.mk hxr
       have ppx : (0 ≤ x) = True := eq_true hxr.1
       have qqx : (x < (n : Int)) = True := eq_true hxr.2
       clear hF hLY hxr
       go_wp2
       clear hza
       go_loopg [51] 30 (fun kq va wr => ∃ (L : List (List Int)) (e : Int) (v : Nat), va = .int .i64 e ∧ Aside0 (v < kq) ∧ Aside0 ((v : Int) + e = (two.length : Int) ∧ 0 ≤ e) ∧ Aside0 (cl.ly C i kk x (two.drop e.toNat) L = LY) ∧ Aside0 (iv.Sq c L) ∧ Aside0 (Mx 2 22 wr w3.heap.size (fun _ => True) (.slice (some ⟨gL, 0, none⟩) c cL) L) ∧ Aside0 (Below w3.heap.size w3 wr))
       case atStart => exact ⟨L, 0, two.length, (by first | rfl | (simp; done) | (simp [*]; done)), ⟨by have := HOtwo.out.1; omega⟩, ⟨by omega⟩, HLY, HSL, ⟨(by (with_reducible repeat (first | apply Kd.S_alloc | apply Kd.S_drewN | apply Kd.S_drew)); exact SL.out)⟩, ⟨(by repeat (first | (with_reducible first | exact HB3.out | apply below_alloc | apply pw_below_drewN | apply below_drew1) | exact HB3.out))⟩⟩
       case round =>
        clear SL HB3 HSL HLY
        obtain ⟨L, e, v, rfl, HQ4, HV, HG, HSL, SL, HB3⟩ := hrel
        cases gk with
        | zero => exact absurd HQ4.out (Nat.not_lt_zero _)
        | succ k4 =>
        cases v with
        | zero =>
         have ceb : decide (e < (two.length : Int)) = false := decide_eq_false (by have := HV.out; omega)
         have e_ := HG.out
         rw [List.drop_of_length_le (by have := HV.out; omega)] at e_
         simp only [cl.ly] at e_
         subst e_
         go_wp2
         go_roundg k3
         case measure => omega
         case rel => exact ⟨L, wrap64 (a + 1), u, (by first | rfl | (simp; done) | (simp [*]; done)), ⟨by have := HQ3.out; omega⟩, ⟨by have := HZ.out; rw [HWA.out]; omega⟩, ⟨by rw [HWA.out]; exact HF.out⟩, HSL, ⟨(by (with_reducible repeat (first | apply Kd.S_alloc | apply Kd.S_drewN | apply Kd.S_drew)); exact SL.out)⟩, ⟨(by repeat (first | (with_reducible first | exact HB3.out | apply below_alloc | apply pw_below_drewN | apply below_drew1) | exact HB3.out))⟩⟩
        | succ v =>
         have h0_ : 0 ≤ e := by have := HV.out; omega
         have h1_ : e < (two.length : Int) := by have := HV.out; omega
         have ceb : decide (e < (two.length : Int)) = true := decide_eq_true h1_
         have ppe : (0 ≤ e) = True := eq_true h0_
         have qqe : (e < (two.length : Int)) = True := eq_true h1_
         have He0 := Aside0.mk h0_
         have He1 := Aside0.mk h1_
         clear h0_ h1_
         have HWE := Aside0.mk (show wrap64 (e + 1) = e + 1 by have := He0.out; have := He1.out; have := HOtwo.out.1; unfold wrap64; omega)
         obtain ⟨adE, eE, hze⟩ := Kd.at_int HItwo.out e He0.out He1.out
         subst eE
         replace hze := (HB3.out.cell (World.block_lt_of_cell? w3 _ hze)).trans hze
         have hG := HG.out
         clear HG
         rw [cr.drop_cons two e He0.out He1.out] at hG
         have hyr := HOtwo.out.2 (rd two e) (by unfold rd; rw [List.getD_eq_getElem?_getD, List.getElem?_eq_getElem (by have := He0.out; have := He1.out; omega)]; exact List.getElem_mem _)
         obtain ⟨y, hy⟩ : ∃ z, rd two e = z := ⟨_, rfl⟩
         rw [hy] at hze hG hyr
         clear hy
         unfold cl.ly at hG
         have HG := Aside0.mk hG
         have HYR := Aside0.mk hyr
         have ppy : (0 ≤ y) = True := eq_true hyr.1
         have qqy : (y < (n : Int)) = True := eq_true hyr.2
         clear hG hyr
         try go_wp2
         clear hze
         (first | (rw [drewN_self wr]; generalize hq_ : World.drewN wr _ = w6) | (rw [drew_self wr]; generalize hq1_ : World.drew wr = w6; have hq_ : World.drewN wr 1 = w6 := hq1_; clear hq1_) | (rw [show wr = World.drewN wr 0 from rfl]; generalize hq_ : World.drewN wr 0 = w6))
         have n_ := Aside0.mk (Kd.S_at hq_ SL.out); clear SL; have SL := n_; clear n_
         have n_ := Aside0.mk (ar_below_at hq_ HB3.out); clear HB3; have HB3 := n_; clear n_
         clear hq_
         have n_ := Aside0.mk (Kd.S_drew SL.out); clear SL; have SL := n_; clear n_
         have n_ := Aside0.mk (below_drew1 HB3.out); clear HB3; have HB3 := n_; clear n_
         obtain ⟨grA, crA, hzA, hfA_, _, _, _, hcA_, _⟩ := mx_atm (m := c) SL.out i Hi0.out Hi1.out (HSL.out.at _ Hi0.out Hi1.out) (by have := HM.out; have := HC8.out; omega)
         obtain ⟨hvA0, hfA0⟩ := hcA_ kk Hk0.out Hk1.out
         clear hfA_ hcA_
         obtain ⟨grB, crB, hzB, hfB_, _, _, _, hcB_, _⟩ := mx_atm (m := n) (Kd.S_below SC.out HB3.out) x HXR.out.1 HXR.out.2 (HSC.out.at _ HXR.out.1 HXR.out.2) (by have := HM.out; have := HC8.out; omega)
         obtain ⟨hvB0, hfB0⟩ := hcB_ y HYR.out.1 HYR.out.2
         clear hfB_ hcB_
         clear hfB0
         refine start_ (n := 17) (S := fun w' => w'.cell? ⟨gL, (i).toNat, none⟩ = some (.slice (some ⟨grA, 0, none⟩) c crA) ∧ w'.cell? ⟨grA, (kk).toNat, none⟩ = some (.int .i64 (iv.gt L i kk)) ∧ w'.frozen? ⟨grA, (kk).toNat, none⟩ = false ∧ w'.cell? ⟨gC, (x).toNat, none⟩ = some (.slice (some ⟨grB, 0, none⟩) n crB) ∧ w'.cell? ⟨grB, (y).toNat, none⟩ = some (.int .i64 (iv.gt C x y))) (ds := [16]) #[false, false, false, false, false, false, false, false, false, false, false, false, false, false, false, false, false] (by kernel_rfl) rfl rfl ⟨hzA, hvA0, hfA0, hzB, hvB0⟩ (fun hHeld => ?_)
         refine with_tabW impl_ComponentLinkings.tab18 impl_ComponentLinkings.bits18 (fun HT_ HW_ => ?_)
         generalize w6.drew = w7 at SL HB3 hzA hvA0 hfA0 hzB hvB0 hHeld ⊢
         refine pure_ (i := 0) (N := some 55) (v := ?_) (a' := ?_) #[true, false, false, false, false, false, false, false, false, false, false, false, false, false, false, false, false] rfl rfl (any_of HT_.out (by kernel_rfl)) (fun _ _ _ h => h) (Or.inl ⟨by rfl, ?_⟩) ?_ ?_
         rotate_left
         ·intro w'
          go_simp
          with_reducible rfl
         rotate_left
         ·simp only [Act.put, List.setIfInBounds_toArray, List.set_cons_zero, List.set_cons_succ, i64_w, i32_w]
          rfl
         refine pure_ (i := 1) (N := some 56) (v := ?_) (a' := ?_) #[true, true, false, false, false, false, false, false, false, false, false, false, false, false, false, false, false] rfl rfl (any_of HT_.out (by kernel_rfl)) (fun _ _ _ h => h) (Or.inl ⟨by rfl, ?_⟩) ?_ ?_
         rotate_left
         ·intro w'
          go_simp
          with_reducible rfl
         rotate_left
         ·simp only [Act.put, List.setIfInBounds_toArray, List.set_cons_zero, List.set_cons_succ, i64_w, i32_w]
          rfl
         refine pure_ (i := 2) (N := some 57) (v := ?_) (a' := ?_) #[true, true, true, false, false, false, false, false, false, false, false, false, false, false, false, false, false] rfl rfl (any_of HT_.out (by kernel_rfl)) (fun _ _ _ h => h) (Or.inl ⟨by rfl, ?_⟩) ?_ ?_
         rotate_left
         ·intro w'
          go_simp
          with_reducible rfl
         rotate_left
         ·simp only [Act.put, List.setIfInBounds_toArray, List.set_cons_zero, List.set_cons_succ, i64_w, i32_w]
          rfl
         refine pure_ (i := 4) (N := some 59) (v := ?_) (a' := ?_) #[true, true, true, false, true, false, false, false, false, false, false, false, false, false, false, false, false] rfl rfl (any_of HT_.out (by kernel_rfl)) (fun _ _ _ h => h) (Or.inl ⟨by rfl, ?_⟩) ?_ ?_
         rotate_left
         ·intro w'
          go_simp
          with_reducible rfl
         rotate_left
         ·simp only [Act.put, List.setIfInBounds_toArray, List.set_cons_zero, List.set_cons_succ, i64_w, i32_w]
          rfl
         refine pure_ (i := 7) (N := some 62) (v := ?_) (a' := ?_) #[true, true, true, false, true, false, false, true, false, false, false, false, false, false, false, false, false] rfl rfl (any_of HT_.out (by kernel_rfl)) (fun _ _ _ h => h) (Or.inl ⟨by rfl, ?_⟩) ?_ ?_
         rotate_left
         ·intro w'
          go_simp
          with_reducible rfl
         rotate_left
         ·simp only [Act.put, List.setIfInBounds_toArray, List.set_cons_zero, List.set_cons_succ, i64_w, i32_w]
          rfl
         refine pure_ (i := 8) (N := some 63) (v := ?_) (a' := ?_) #[true, true, true, false, true, false, false, true, true, false, false, false, false, false, false, false, false] rfl rfl (any_of HT_.out (by kernel_rfl)) (fun _ _ _ h => h) (Or.inl ⟨by rfl, ?_⟩) ?_ ?_
         rotate_left
         ·intro w'
          go_simp
          with_reducible rfl
         rotate_left
         ·simp only [Act.put, List.setIfInBounds_toArray, List.set_cons_zero, List.set_cons_succ, i64_w, i32_w]
          rfl
         refine pure_ (i := 9) (N := some 64) (v := ?_) (a' := ?_) #[true, true, true, false, true, false, false, true, true, true, false, false, false, false, false, false, false] rfl rfl (any_of HT_.out (by kernel_rfl)) (fun _ _ _ h => h) (Or.inl ⟨by rfl, ?_⟩) ?_ ?_
         rotate_left
         ·intro w'
          go_simp
          with_reducible rfl
         rotate_left
         ·simp only [Act.put, List.setIfInBounds_toArray, List.set_cons_zero, List.set_cons_succ, i64_w, i32_w]
          rfl
         refine pure_ (i := 11) (N := some 66) (v := ?_) (a' := ?_) #[true, true, true, false, true, false, false, true, true, true, false, true, false, false, false, false, false] rfl rfl (any_of HT_.out (by kernel_rfl)) (fun _ _ _ h => h) (Or.inl ⟨by rfl, ?_⟩) ?_ ?_
         rotate_left
         ·intro w'
          go_simp
          with_reducible rfl
         rotate_left
         ·simp only [Act.put, List.setIfInBounds_toArray, List.set_cons_zero, List.set_cons_succ, i64_w, i32_w]
          rfl
         refine take_ (i := 3) (N := some 58) (v := ?_) (a' := ?_) #[true, true, true, true, true, false, false, true, true, true, false, true, false, false, false, false, false] rfl rfl (take_ofW HT_.out HW_.out (by kernel_rfl)) (fun _ _ _ h => h) (Or.inl ⟨by rfl, ?_⟩) hHeld ?_ ?_
         rotate_left
         ·rintro w' ⟨s0, s1, s2, s3, s4⟩
          go_simp
          with_reducible rfl
         rotate_left
         ·simp only [Act.put, List.setIfInBounds_toArray, List.set_cons_zero, List.set_cons_succ, i64_w, i32_w]
          rfl
         refine pure_ (i := 5) (N := some 60) (v := ?_) (a' := ?_) #[true, true, true, true, true, true, false, true, true, true, false, true, false, false, false, false, false] rfl rfl (any_of HT_.out (by kernel_rfl)) (fun _ _ _ h => h) (Or.inl ⟨by rfl, ?_⟩) ?_ ?_
         rotate_left
         ·intro w'
          go_simp
          with_reducible rfl
         rotate_left
         ·simp only [Act.put, List.setIfInBounds_toArray, List.set_cons_zero, List.set_cons_succ, i64_w, i32_w]
          rfl
         refine take_ (i := 6) (N := some 61) (v := ?_) (a' := ?_) #[true, true, true, true, true, true, true, true, true, true, false, true, false, false, false, false, false] rfl rfl (take_ofW HT_.out HW_.out (by kernel_rfl)) (fun _ _ _ h => h) (Or.inl ⟨by rfl, ?_⟩) hHeld ?_ ?_
         rotate_left
         ·rintro w' ⟨s0, s1, s2, s3, s4⟩
          go_simp
          with_reducible rfl
         rotate_left
         ·simp only [Act.put, List.setIfInBounds_toArray, List.set_cons_zero, List.set_cons_succ, i64_w, i32_w]
          rfl
         refine take_ (i := 10) (N := some 65) (v := ?_) (a' := ?_) #[true, true, true, true, true, true, true, true, true, true, true, true, false, false, false, false, false] rfl rfl (take_ofW HT_.out HW_.out (by kernel_rfl)) (fun _ _ _ h => h) (Or.inl ⟨by rfl, ?_⟩) hHeld ?_ ?_
         rotate_left
         ·rintro w' ⟨s0, s1, s2, s3, s4⟩
          go_simp
          with_reducible rfl
         rotate_left
         ·simp only [Act.put, List.setIfInBounds_toArray, List.set_cons_zero, List.set_cons_succ, i64_w, i32_w]
          rfl
         refine pure_ (i := 12) (N := some 67) (v := ?_) (a' := ?_) #[true, true, true, true, true, true, true, true, true, true, true, true, true, false, false, false, false] rfl rfl (any_of HT_.out (by kernel_rfl)) (fun _ _ _ h => h) (Or.inl ⟨by rfl, ?_⟩) ?_ ?_
         rotate_left
         ·intro w'
          go_simp
          with_reducible rfl
         rotate_left
         ·simp only [Act.put, List.setIfInBounds_toArray, List.set_cons_zero, List.set_cons_succ, i64_w, i32_w]
          rfl
         refine take_ (i := 13) (N := some 68) (v := ?_) (a' := ?_) #[true, true, true, true, true, true, true, true, true, true, true, true, true, true, false, false, false] rfl rfl (take_ofW HT_.out HW_.out (by kernel_rfl)) (fun _ _ _ h => h) (Or.inl ⟨by rfl, ?_⟩) hHeld ?_ ?_
         rotate_left
         ·rintro w' ⟨s0, s1, s2, s3, s4⟩
          go_simp
          with_reducible rfl
         rotate_left
         ·simp only [Act.put, List.setIfInBounds_toArray, List.set_cons_zero, List.set_cons_succ, i64_w, i32_w]
          rfl
         refine pure_ (i := 14) (N := some 69) (v := ?_) (a' := ?_) #[true, true, true, true, true, true, true, true, true, true, true, true, true, true, true, false, false] rfl rfl (any_of HT_.out (by kernel_rfl)) (fun _ _ _ h => h) (Or.inl ⟨by rfl, ?_⟩) ?_ ?_
         rotate_left
         ·intro w'
          go_simp
          with_reducible rfl
         rotate_left
         ·simp only [Act.put, List.setIfInBounds_toArray, List.set_cons_zero, List.set_cons_succ, i64_w, i32_w]
          rfl
         refine pure_ (i := 15) (N := some 70) (v := ?_) (a' := ?_) #[true, true, true, true, true, true, true, true, true, true, true, true, true, true, true, true, false] rfl rfl (any_of HT_.out (by kernel_rfl)) (fun _ _ _ h => h) (Or.inl ⟨by rfl, ?_⟩) ?_ ?_
         rotate_left
         ·intro w'
          go_simp
          with_reducible rfl
         rotate_left
         ·simp only [Act.put, List.setIfInBounds_toArray, List.set_cons_zero, List.set_cons_succ, i64_w, i32_w]
          rfl
         refine last_ (i := 16) (N := none) #[true, true, true, true, true, true, true, true, true, true, true, true, true, true, true, true, true] rfl rfl (one_of HT_.out (by kernel_rfl)) (by decide) (fun K hK => ?_)
         refine skip_ (w1 := ?_) (by rfl) rfl ?_ ?_
         rotate_left
         ·first | (go_simp; done) | (go_simp; rfl)
         refine hK.out _ _ ?_
         clear hK K
         refine done_ (done_of HT_.out (by kernel_rfl)) ?_
         obtain ⟨hst, _, hbs_⟩ := mx_store SL.out i Hi0.out Hi1.out (HSL.out.at _ Hi0.out Hi1.out) (by have := HC8.out; omega) hzA kk (wrap64 (iv.gt L i kk + iv.gt C x y)) Hk0.out Hk1.out
         have n0_ : Aside0 (Mx 2 22 (World.setCell w7 ⟨grA, kk.toNat, none⟩ (.int .i64 (wrap64 (iv.gt L i kk + iv.gt C x y)))) w3.heap.size (fun _ => True) (.slice (some ⟨gL, 0, none⟩) c cL) (iv.pt L i kk (wrap64 (iv.gt L i kk + iv.gt C x y)))) := ⟨hst⟩
         have n2_ : Aside0 (Below w3.heap.size w3 (World.setCell w7 ⟨grA, kk.toNat, none⟩ (.int .i64 (wrap64 (iv.gt L i kk + iv.gt C x y))))) := ⟨below_set HB3.out hbs_⟩
         have n3_ : Aside0 (iv.Sq c (iv.pt L i kk (wrap64 (iv.gt L i kk + iv.gt C x y)))) := ⟨HSL.out.pt _ _ _ Hi0.out Hi1.out⟩
         clear hst hbs_ SL HB3 HSL hHeld HT_ HW_ hzA hvA0 hfA0 hzB hvB0
         generalize (World.setCell w7 ⟨grA, kk.toNat, none⟩ (.int .i64 (wrap64 (iv.gt L i kk + iv.gt C x y)))) = w8 at n0_ n2_ ⊢
         have SL := n0_
         have HB3 := n2_
         have HSL := n3_
         clear n0_ n2_ n3_
         try go_wp2
         go_roundg k4
         case measure => omega
         case rel => exact ⟨_, wrap64 (e + 1), v, (by first | rfl | (simp; done) | (simp [*]; done)), ⟨by have := HQ4.out; omega⟩, ⟨by have := HV.out; rw [HWE.out]; omega⟩, ⟨by rw [HWE.out]; exact HG.out⟩, HSL, ⟨(by (with_reducible repeat (first | apply Kd.S_alloc | apply Kd.S_drewN | apply Kd.S_drew)); exact SL.out)⟩, ⟨(by repeat (first | (with_reducible first | exact HB3.out | apply below_alloc | apply pw_below_drewN | apply below_drew1) | exact HB3.out))⟩⟩
      | zero =>
       have cab : decide (a < (one.length : Int)) = false := decide_eq_false (by have := HZ.out; omega)
       have e_ := HF.out
       rw [List.drop_of_length_le (by have := HZ.out; omega)] at e_
       simp only [cl.lx] at e_
       subst e_
       obtain ⟨grA, crA, hzA, hfA_, _, _, _, hcA_, _⟩ := mx_atm (m := c) SL.out i Hi0.out Hi1.out (HSL.out.at _ Hi0.out Hi1.out) (by have := HM.out; have := HC8.out; omega)
       obtain ⟨hvA0, hfA0⟩ := hcA_ kk Hk0.out Hk1.out
       clear hfA_ hcA_
       go_wp2
       obtain ⟨hst, _, hbs_⟩ := mx_store SL.out i Hi0.out Hi1.out (HSL.out.at _ Hi0.out Hi1.out) (by have := HC8.out; omega) hzA kk (wrap64 (Int.tdiv (iv.gt L i kk) 2)) Hk0.out Hk1.out
       have n0_ : Aside0 (Mx 2 22 (World.setCell wr ⟨grA, kk.toNat, none⟩ (.int .i64 (wrap64 (Int.tdiv (iv.gt L i kk) 2)))) w3.heap.size (fun _ => True) (.slice (some ⟨gL, 0, none⟩) c cL) (iv.pt L i kk (wrap64 (Int.tdiv (iv.gt L i kk) 2)))) := ⟨hst⟩
       have n2_ : Aside0 (Below w3.heap.size w3 (World.setCell wr ⟨grA, kk.toNat, none⟩ (.int .i64 (wrap64 (Int.tdiv (iv.gt L i kk) 2))))) := ⟨below_set HB3.out hbs_⟩
       have n3_ : Aside0 (iv.Sq c (iv.pt L i kk (wrap64 (Int.tdiv (iv.gt L i kk) 2)))) := ⟨HSL.out.pt _ _ _ Hi0.out Hi1.out⟩
       clear hst hbs_ SL HB3 HSL hzA hvA0 hfA0
       generalize (World.setCell wr ⟨grA, kk.toNat, none⟩ (.int .i64 (wrap64 (Int.tdiv (iv.gt L i kk) 2)))) = w8 at n0_ n2_ ⊢
       have SL := n0_
       have HB3 := n2_
       have HSL := n3_
       clear n0_ n2_ n3_
       try go_wp2
       go_roundg k2
       case measure => omega
       case rel => exact ⟨_, wrap64 (kk + 1), s, (by first | rfl | (simp; done) | (simp [*]; done)), ⟨by have := HQ2.out; omega⟩, ⟨by have := HY.out; rw [HWK.out]; omega⟩, ⟨by rw [HWK.out]; exact HE.out⟩, HSL, ⟨(by (with_reducible repeat (first | apply Kd.S_alloc | apply Kd.S_drewN | apply Kd.S_drew)); exact SL.out)⟩, ⟨(by repeat (first | (with_reducible first | exact HB3.out | apply below_alloc | apply pw_below_drewN | apply below_drew1) | exact HB3.out))⟩⟩


-- NOT PRINTED: function 12 (laws_FnExactComponentLinkings)

end Go.Proofs.Ytcbomfkimohlfaa.MFnExactComponentLinkings
