-- Walks of the functions that a law reaches, one after the other: plain functions, and that the machine's calls come to what they tell (wip/tools/myprint.py of this repo).
import Derived.Test.YtmmoimofjomnlaaMFnExactPlatComponentsx0
namespace Go.Proofs.Ytmmoimofjomnlaa.MFnExactPlatComponents
open Go.RowKit Go.Proofs.YtmmoimofjomnlaaW.PrintWords Go.Proofs.YtmmoimofjomnlaaW.PrintLast Go.Proofs.YtmmoimofjomnlaaW.PrintMore
attribute [local go_sem] max2_int min2_int max_two min_two max_three min_three max_four min_four   -- for this text's walks alone
set_option linter.unusedVariables false
set_option linter.unusedSimpArgs false

/-! ### laws_szInt64S: function 9 -/
def laws_szInt64S.f (l0 : List Int) (a1 : Int) : Option (Int) := if (wrap64 (a1 - (l0.length : Int))) < 0 then (some (-1)) else (some (wrap64 (a1 - (l0.length : Int))))
set_option maxHeartbeats 8000000 in
set_option maxRecDepth 100000 in
theorem laws_szInt64S.calls (A0 : Option Addr) (c0 : Nat) (l0 : List Int) (a1 : Int) (r : Int) (w : World) (hr0 : Kd.C (Kd.int .i64) w A0 l0.length l0) (hc0 : l0.length ≤ c0) (h : laws_szInt64S.f l0 a1 = some r) :
    Calls Try.prog 9 #[.slice A0 l0.length c0, .int .i64 a1] w fun e w' => e = .returned (.int .i64 r) ∧ Drawn0 w w' := by
  have HR0 := Aside0.mk hr0
  have HC0 := Aside0.mk hc0
  clear hr0 hc0
  have H : (if (wrap64 (a1 - (l0.length : Int))) < 0 then (some (-1)) else (some (wrap64 (a1 - (l0.length : Int))))) = some r := h
  clear h
  by_cases c3 : (wrap64 (a1 - (l0.length : Int))) < 0
  · rw [if_pos c3] at H
    have c3b0 : decide ((wrap64 (a1 - (l0.length : Int))) < 0) = true := decide_eq_true c3
    clear c3
    obtain rfl := Option.some.inj H
    go_enter Try.func9, Try.ntmps9
    go_wp2
    go_ret
    exact ⟨by first | rfl | (simp; done) | (simp [*]; done), by repeat (first | exact Drawn0.refl _ | apply Drawn0.step)⟩
  · rw [if_neg c3] at H
    have c3b0 : decide ((wrap64 (a1 - (l0.length : Int))) < 0) = false := decide_eq_false c3
    clear c3
    obtain rfl := Option.some.inj H
    go_enter Try.func9, Try.ntmps9
    go_wp2
    go_ret
    exact ⟨by first | rfl | (simp; done) | (simp [*]; done), by repeat (first | exact Drawn0.refl _ | apply Drawn0.step)⟩

/-! ### laws_szBraid: function 4 -/
def laws_szBraid.f (a0_0 : Int) (l0_1 : List Int) (a1 : Int) : Option (Int) := (laws_szInt64S.f l0_1 a1).bind fun t102 => (if t102 < 0 then (some (-1)) else (some t102))
set_option maxHeartbeats 8000000 in
set_option maxRecDepth 100000 in
theorem laws_szBraid.calls (a0_0 : Int) (A0_1 : Option Addr) (c0_1 : Nat) (l0_1 : List Int) (a1 : Int) (r : Int) (w : World) (hr0_1 : Kd.C (Kd.int .i64) w A0_1 l0_1.length l0_1) (hc0_1 : l0_1.length ≤ c0_1) (h : laws_szBraid.f a0_0 l0_1 a1 = some r) :
    Calls Try.prog 4 #[.agg #[.int .i64 a0_0, .slice A0_1 l0_1.length c0_1], .int .i64 a1] w fun e w' => e = .returned (.int .i64 r) ∧ Below w.heap.size w w' := by
  have hu24 := Try.underlying24
  have HR0_1 := Aside0.mk hr0_1
  have HC0_1 := Aside0.mk hc0_1
  clear hr0_1 hc0_1
  have HB := Aside0.mk (Below.refl w.heap.size w)
  have H : ((laws_szInt64S.f l0_1 a1).bind fun t102 => (if t102 < 0 then (some (-1)) else (some t102))) = some r := h
  clear h
  replace H := Option.bind_eq_some_iff.mp H
  obtain ⟨t102, A30, H⟩ := H
  replace H : (if t102 < 0 then (some (-1)) else (some t102)) = some r := H
  have A3 := Aside0.mk A30
  clear A30
  by_cases c4 : t102 < 0
  · rw [if_pos c4] at H
    have c4b0 : decide (t102 < 0) = true := decide_eq_true c4
    clear c4
    obtain rfl := Option.some.inj H
    go_enter Try.func4, Try.ntmps4
    go_wp2_with (first | ((with_reducible refine gate_dst (N := 2) rfl ?_); refine box_event ?hg (N := 2) ?hd (cs := #[.int .i64 a0_0, .slice A0_1 l0_1.length c0_1]) (t := 24) ?hr ?_; (case hd => rfl); (case hg => rfl); (case hr => first | (go_simp; done) | (go_simp; rfl)); intro gb101 hg w5 hbox hb; have n0_ := Aside0.mk (below_step (by repeat (first | (with_reducible first | exact HB.out | apply below_alloc | apply pw_below_drewN | apply below_drew1) | exact HB.out)) hb); have n1_ := Aside0.mk (hbox); have n2_ := Aside0.mk ((by rw [hg]; exact (below_size (by repeat (first | (with_reducible first | exact HB.out | apply below_alloc | apply pw_below_drewN | apply below_drew1) | exact HB.out))) : w.heap.size ≤ gb101)); have n3_ := Aside0.mk ((by rw [hg]; exact (below_size (by repeat (first | (with_reducible first | exact HB.out | apply below_alloc | apply pw_below_drewN | apply below_drew1) | exact HB.out))) : w.heap.size ≤ gb101)); clear HB; have HB := n0_; have BK101 := n1_; have GW101 := n2_; have GE101 := n3_; clear n0_ n1_ n2_ n3_; clear hb hbox hg; have hcz6_0 : w5.cell? ⟨gb101, 0, none⟩ = some (.int .i64 a0_0) := (blk_cell BK101.out 0).trans rfl; have hcz6_1 : w5.cell? ⟨gb101, 1, none⟩ = some (.slice A0_1 l0_1.length c0_1) := (blk_cell BK101.out 1).trans rfl; have hfz6_0 := blk_frozen BK101.out 0; have hfz6_1 := blk_frozen BK101.out 1) | ((with_reducible refine gate_callee (f := 9) rfl ?_); refine goesL_ (some 8) rfl rfl Try.func9 (by kernel_rfl) rfl #[.slice A0_1 l0_1.length c0_1, .int .i64 a1] rfl (by (try simp only [List.map_toArray, List.map_cons, List.map_nil]); first | done | rfl | (simp only [List.length_drop, List.length_take]; rfl)) ?_; (with_reducible refine (laws_szInt64S.calls _ _ l0_1 a1 t102 _ ?side1 ?side2 A3.out).mono ?_); (case side1 => repeat (first | exact (Kd.C_below HR0_1.out HB.out) | (with_reducible refine Kd.C_alloc ?_ _) | (with_reducible refine Kd.C_drewN ?_ _) | (with_reducible refine Kd.C_drew ?_))); (case side2 => exact HC0_1.out); rintro e w' ⟨rfl, ⟨nd, rfl⟩⟩; refine ⟨_, rfl, ?_⟩))
    go_ret
    exact ⟨by first | rfl | (simp [errW_none, errW_some] <;> rfl) | (simp [*, errW_none, errW_some] <;> rfl), by repeat (first | (with_reducible first | exact HB.out | apply below_alloc | apply pw_below_drewN | apply below_drew1 | refine below_set ?_ GE101.out) | exact HB.out)⟩
  · rw [if_neg c4] at H
    have c4b0 : decide (t102 < 0) = false := decide_eq_false c4
    clear c4
    obtain rfl := Option.some.inj H
    go_enter Try.func4, Try.ntmps4
    go_wp2_with (first | ((with_reducible refine gate_dst (N := 2) rfl ?_); refine box_event ?hg (N := 2) ?hd (cs := #[.int .i64 a0_0, .slice A0_1 l0_1.length c0_1]) (t := 24) ?hr ?_; (case hd => rfl); (case hg => rfl); (case hr => first | (go_simp; done) | (go_simp; rfl)); intro gb101 hg w7 hbox hb; have n0_ := Aside0.mk (below_step (by repeat (first | (with_reducible first | exact HB.out | apply below_alloc | apply pw_below_drewN | apply below_drew1) | exact HB.out)) hb); have n1_ := Aside0.mk (hbox); have n2_ := Aside0.mk ((by rw [hg]; exact (below_size (by repeat (first | (with_reducible first | exact HB.out | apply below_alloc | apply pw_below_drewN | apply below_drew1) | exact HB.out))) : w.heap.size ≤ gb101)); have n3_ := Aside0.mk ((by rw [hg]; exact (below_size (by repeat (first | (with_reducible first | exact HB.out | apply below_alloc | apply pw_below_drewN | apply below_drew1) | exact HB.out))) : w.heap.size ≤ gb101)); clear HB; have HB := n0_; have BK101 := n1_; have GW101 := n2_; have GE101 := n3_; clear n0_ n1_ n2_ n3_; clear hb hbox hg; have hcz8_0 : w7.cell? ⟨gb101, 0, none⟩ = some (.int .i64 a0_0) := (blk_cell BK101.out 0).trans rfl; have hcz8_1 : w7.cell? ⟨gb101, 1, none⟩ = some (.slice A0_1 l0_1.length c0_1) := (blk_cell BK101.out 1).trans rfl; have hfz8_0 := blk_frozen BK101.out 0; have hfz8_1 := blk_frozen BK101.out 1) | ((with_reducible refine gate_callee (f := 9) rfl ?_); refine goesL_ (some 8) rfl rfl Try.func9 (by kernel_rfl) rfl #[.slice A0_1 l0_1.length c0_1, .int .i64 a1] rfl (by (try simp only [List.map_toArray, List.map_cons, List.map_nil]); first | done | rfl | (simp only [List.length_drop, List.length_take]; rfl)) ?_; (with_reducible refine (laws_szInt64S.calls _ _ l0_1 a1 t102 _ ?side1 ?side2 A3.out).mono ?_); (case side1 => repeat (first | exact (Kd.C_below HR0_1.out HB.out) | (with_reducible refine Kd.C_alloc ?_ _) | (with_reducible refine Kd.C_drewN ?_ _) | (with_reducible refine Kd.C_drew ?_))); (case side2 => exact HC0_1.out); rintro e w' ⟨rfl, ⟨nd, rfl⟩⟩; refine ⟨_, rfl, ?_⟩))
    go_ret
    exact ⟨by first | rfl | (simp [errW_none, errW_some] <;> rfl) | (simp [*, errW_none, errW_some] <;> rfl), by repeat (first | (with_reducible first | exact HB.out | apply below_alloc | apply pw_below_drewN | apply below_drew1 | refine below_set ?_ GE101.out) | exact HB.out)⟩

/-! ### spec_l01In: function 22 -/
def spec_l01In.f (a0 : Int) (a1 : Int) (a2 : Int) : Option (Bool) := if a0 ≥ a1 then (some (decide (a0 ≤ a2))) else (some false)
set_option maxHeartbeats 8000000 in
set_option maxRecDepth 100000 in
theorem spec_l01In.calls (a0 : Int) (a1 : Int) (a2 : Int) (r : Bool) (w : World) (h : spec_l01In.f a0 a1 a2 = some r) :
    Calls Try.prog 22 #[.int .i64 a0, .int .i64 a1, .int .i64 a2] w fun e w' => e = .returned (.bool r) ∧ Drawn0 w w' := by
  have H : (if a0 ≥ a1 then (some (decide (a0 ≤ a2))) else (some false)) = some r := h
  clear h
  by_cases c4 : a0 ≥ a1
  · rw [if_pos c4] at H
    have c4b0 : decide (a1 ≤ a0) = true := decide_eq_true c4
    clear c4
    obtain rfl := Option.some.inj H
    go_enter Try.func22, Try.ntmps22
    go_wp2
    go_ret
    exact ⟨by first | rfl | (simp; done) | (simp [*]; done), by repeat (first | exact Drawn0.refl _ | apply Drawn0.step)⟩
  · rw [if_neg c4] at H
    have c4b0 : decide (a1 ≤ a0) = false := decide_eq_false c4
    clear c4
    obtain rfl := Option.some.inj H
    go_enter Try.func22, Try.ntmps22
    go_wp2
    go_ret
    exact ⟨by first | rfl | (simp; done) | (simp [*]; done), by repeat (first | exact Drawn0.refl _ | apply Drawn0.step)⟩

/-! ### spec_l01Is: function 10 -/
mutual
def spec_l01Is.j0 : Nat → Bool → Int → List Int → Option (Bool)
  | 0, _, _, _ => none
  | k + 1, x14, x104000, x104001 => if x14 = true then (some false) else (spec_l01Is.l0 k 0 x104000 x104001)
def spec_l01Is.l0 : Nat → Int → Int → List Int → Option (Bool)
  | 0, _, _, _ => none
  | k + 1, x3, x104000, x104001 => if x3 < (x104001.length : Int) then (if 0 ≤ x3 then ((spec_l01In.f (rd x104001 x3) 1 (wrap64 (x104000 - 1))).bind fun t106 => (if t106 = true then (spec_l01Is.l0 k (wrap64 (x3 + 1)) x104000 x104001) else ((spec_l01In.f (wrap64 (-(rd x104001 x3))) 1 (wrap64 (x104000 - 1))).bind fun t107 => (if t107 = true then (spec_l01Is.l0 k (wrap64 (x3 + 1)) x104000 x104001) else (some false))))) else (none)) else (some true)
end
def spec_l01Is.f (k : Nat) (a0_0 : Int) (l0_1 : List Int) : Option (Bool) := (spec_l01In.f a0_0 1 8).bind fun t104 => (if t104 = true then (spec_l01Is.j0 k (decide ((l0_1.length : Int) > 200)) a0_0 l0_1) else (spec_l01Is.j0 k true a0_0 l0_1))
theorem spec_l01Is.mono_l : ∀ k, (∀ y0 y1 y2, LeO (spec_l01Is.j0 k y0 y1 y2) (spec_l01Is.j0 (k + 1) y0 y1 y2)) ∧ (∀ y0 y1 y2, LeO (spec_l01Is.l0 k y0 y1 y2) (spec_l01Is.l0 (k + 1) y0 y1 y2))
  | 0 => ⟨fun _ _ _ r h => by simp [spec_l01Is.j0] at h, fun _ _ _ r h => by simp [spec_l01Is.l0] at h⟩
  | k + 1 => by
    obtain ⟨ih0, ih1⟩ := spec_l01Is.mono_l k
    refine ⟨?_, ?_⟩
    · intro y0 y1 y2
      unfold spec_l01Is.j0
      repeat' first
      | (with_reducible exact ih0 _ _ _)
      | (with_reducible exact ih1 _ _ _)
      | (with_reducible exact LeO.refl _)
      | (with_reducible exact LeO.none _)
      | (with_reducible refine LeO.ite ?_ ?_)
      | (with_reducible refine LeO.bind ?_ (fun _ => ?_))
      | exact ih0 _ _ _
      | exact ih1 _ _ _
      | exact LeO.none _
      | refine LeO.ite ?_ ?_
      | refine LeO.bind ?_ (fun _ => ?_)
    · intro y0 y1 y2
      unfold spec_l01Is.l0
      repeat' first
      | (with_reducible exact ih0 _ _ _)
      | (with_reducible exact ih1 _ _ _)
      | (with_reducible exact LeO.refl _)
      | (with_reducible exact LeO.none _)
      | (with_reducible refine LeO.ite ?_ ?_)
      | (with_reducible refine LeO.bind ?_ (fun _ => ?_))
      | exact ih0 _ _ _
      | exact ih1 _ _ _
      | exact LeO.none _
      | refine LeO.ite ?_ ?_
      | refine LeO.bind ?_ (fun _ => ?_)
theorem spec_l01Is.mono : ∀ a0 a1 k, LeO (spec_l01Is.f k a0 a1) (spec_l01Is.f (k + 1) a0 a1) := by
  intro a0 a1 k
  obtain ⟨ih0, ih1⟩ := spec_l01Is.mono_l k
  unfold spec_l01Is.f
  repeat' first
      | (with_reducible exact ih0 _ _ _)
      | (with_reducible exact ih1 _ _ _)
      | (with_reducible exact LeO.refl _)
      | (with_reducible exact LeO.none _)
      | (with_reducible refine LeO.ite ?_ ?_)
      | (with_reducible refine LeO.bind ?_ (fun _ => ?_))
      | exact ih0 _ _ _
      | exact ih1 _ _ _
      | exact LeO.none _
      | refine LeO.ite ?_ ?_
      | refine LeO.bind ?_ (fun _ => ?_)
set_option maxHeartbeats 8000000 in
set_option maxRecDepth 100000 in
theorem spec_l01Is.calls (k : Nat) (a0_0 : Int) (A0_1 : Option Addr) (c0_1 : Nat) (l0_1 : List Int) (r : Bool) (w : World) (hr0_1 : Kd.C (Kd.int .i64) w A0_1 l0_1.length l0_1) (hc0_1 : l0_1.length ≤ c0_1) (h : spec_l01Is.f k a0_0 l0_1 = some r) :
    Calls Try.prog 10 #[.agg #[.int .i64 a0_0, .slice A0_1 l0_1.length c0_1]] w fun e w' => e = .returned (.bool r) ∧ Below w.heap.size w w' := by
  have hu28 := Try.underlying28
  have HR0_1 := Aside0.mk hr0_1
  have HC0_1 := Aside0.mk hc0_1
  clear hr0_1 hc0_1
  have HB := Aside0.mk (Below.refl w.heap.size w)
  have H : ((spec_l01In.f a0_0 1 8).bind fun t104 => (if t104 = true then (spec_l01Is.j0 k (decide ((l0_1.length : Int) > 200)) a0_0 l0_1) else (spec_l01Is.j0 k true a0_0 l0_1))) = some r := h
  clear h
  have HC2 := Aside0.mk H
  clear H
  go_enter Try.func10, Try.ntmps10
  go_upto_region 1 with (first | ((with_reducible refine gate_dst (N := 1) rfl ?_); (try (refine gate_guard (by rfl) ?_; dsimp only)); refine box_event ?hg (N := 1) ?hd (cs := #[.int .i64 a0_0, .slice A0_1 l0_1.length c0_1]) (t := 28) ?hr ?_; (case hd => rfl); (case hg => rfl); (case hr => first | (go_simp; done) | (go_simp; rfl)); intro gb103 hg w3 hbox hb; have n0_ := Aside0.mk (below_step (by repeat (first | (with_reducible first | exact HB.out | apply below_alloc | apply pw_below_drewN | apply below_drew1) | exact HB.out)) hb); have n1_ := Aside0.mk (hbox); have n2_ := Aside0.mk ((by rw [hg]; exact (below_size (by repeat (first | (with_reducible first | exact HB.out | apply below_alloc | apply pw_below_drewN | apply below_drew1) | exact HB.out))) : w.heap.size ≤ gb103)); have n3_ := Aside0.mk ((by rw [hg]; exact (below_size (by repeat (first | (with_reducible first | exact HB.out | apply below_alloc | apply pw_below_drewN | apply below_drew1) | exact HB.out))) : w.heap.size ≤ gb103)); clear HB; have HB := n0_; have BK103 := n1_; have GW103 := n2_; have GE103 := n3_; clear n0_ n1_ n2_ n3_; clear hb hbox hg))
  (try simp only [Act.put, List.setIfInBounds_toArray, List.set_cons_zero, List.set_cons_succ])
  go_cut [14] (fun v14 wc => ∃ (kq : Nat) (x14_1 : Bool), v14 = .bool x14_1 ∧ Aside0 (spec_l01Is.j0 kq x14_1 a0_0 l0_1 = some r) ∧ Aside0 (kq ≤ k) ∧ Aside0 (wc.heap[gb103]? = some (.cells #[.int .i64 a0_0, (.slice A0_1 l0_1.length c0_1)] 28 (0, 0))) ∧ Aside0 (Below w.heap.size w wc))
  case first =>
    have H := HC2.out
    clear HC2
    replace H := Option.bind_eq_some_iff.mp H
    obtain ⟨t104, A40, H⟩ := H
    replace H : (if t104 = true then (spec_l01Is.j0 k (decide ((l0_1.length : Int) > 200)) a0_0 l0_1) else (spec_l01Is.j0 k true a0_0 l0_1)) = some r := H
    have A4 := Aside0.mk A40
    clear A40
    by_cases c5 : t104 = true
    · subst c5
      have H1 : (spec_l01Is.j0 k (decide ((l0_1.length : Int) > 200)) a0_0 l0_1) = some r := by rw [if_pos rfl] at H; exact H
      clear H
      have H := H1
      clear H1
      have H' := Aside0.mk H
      clear H
      have hcz6_0 : w3.cell? ⟨gb103, 0, none⟩ = some (.int .i64 a0_0) := (blk_cell BK103.out 0).trans rfl
      have hcz6_1 : w3.cell? ⟨gb103, 1, none⟩ = some (.slice A0_1 l0_1.length c0_1) := (blk_cell BK103.out 1).trans rfl
      have hfz6_0 := blk_frozen BK103.out 0
      have hfz6_1 := blk_frozen BK103.out 1
      go_wp2_with (first | ((with_reducible refine gate_callee (f := 22) rfl ?_); refine goesL_ (some 7) rfl rfl Try.func22 (by kernel_rfl) rfl #[.int .i64 a0_0, .int .i64 1, .int .i64 8] rfl (by (try simp only [List.map_toArray, List.map_cons, List.map_nil]); first | done | rfl | (simp only [List.length_drop, List.length_take]; rfl)) ?_; (with_reducible refine (spec_l01In.calls a0_0 1 8 true _ A4.out).mono ?_); rintro e w' ⟨rfl, ⟨nd, rfl⟩⟩; refine ⟨_, rfl, ?_⟩))
      go_meet
      case rel => exact ⟨_, (decide ((l0_1.length : Int) > 200)), (by first | rfl | (simp; done) | (simp [*]; done)), H', ⟨by first | omega | exact Nat.le_refl _⟩, ⟨by (with_reducible repeat (first | refine blk_drewN ?_ _ | refine blk_drew ?_ | refine blk_alloc ?_ _)); exact BK103.out⟩, ⟨by repeat (first | (with_reducible first | exact HB.out | apply below_alloc | apply pw_below_drewN | apply below_drew1 | refine below_set ?_ GE103.out) | exact HB.out)⟩⟩
    · replace c5 := Bool.eq_false_iff.mpr c5
      subst c5
      have H1 : (spec_l01Is.j0 k true a0_0 l0_1) = some r := by rw [if_neg (show ¬ (false = true) by decide)] at H; exact H
      clear H
      have H := H1
      clear H1
      have H' := Aside0.mk H
      clear H
      have hcz7_0 : w3.cell? ⟨gb103, 0, none⟩ = some (.int .i64 a0_0) := (blk_cell BK103.out 0).trans rfl
      have hcz7_1 : w3.cell? ⟨gb103, 1, none⟩ = some (.slice A0_1 l0_1.length c0_1) := (blk_cell BK103.out 1).trans rfl
      have hfz7_0 := blk_frozen BK103.out 0
      have hfz7_1 := blk_frozen BK103.out 1
      go_wp2_with (first | ((with_reducible refine gate_callee (f := 22) rfl ?_); refine goesL_ (some 7) rfl rfl Try.func22 (by kernel_rfl) rfl #[.int .i64 a0_0, .int .i64 1, .int .i64 8] rfl (by (try simp only [List.map_toArray, List.map_cons, List.map_nil]); first | done | rfl | (simp only [List.length_drop, List.length_take]; rfl)) ?_; (with_reducible refine (spec_l01In.calls a0_0 1 8 false _ A4.out).mono ?_); rintro e w' ⟨rfl, ⟨nd, rfl⟩⟩; refine ⟨_, rfl, ?_⟩))
      go_meet
      case rel => exact ⟨_, (true), (by first | rfl | (simp; done) | (simp [*]; done)), H', ⟨by first | omega | exact Nat.le_refl _⟩, ⟨by (with_reducible repeat (first | refine blk_drewN ?_ _ | refine blk_drew ?_ | refine blk_alloc ?_ _)); exact BK103.out⟩, ⟨by repeat (first | (with_reducible first | exact HB.out | apply below_alloc | apply pw_below_drewN | apply below_drew1 | refine below_set ?_ GE103.out) | exact HB.out)⟩⟩
  case rest =>
    clear HC2
    try clear c1
    try clear c2
    try clear p2
    try clear c5
    try clear hcz6_0
    try clear hcz6_1
    try clear hcz7_0
    try clear hcz7_1
    try clear hfz6_0
    try clear hfz6_1
    try clear hfz7_0
    try clear hfz7_1
    obtain ⟨kq, x14_1, rfl, HA, HJ1, BK103, HB⟩ := hcut
    cases kq with
    | zero => exact absurd HA.out (by simp [spec_l01Is.j0])
    | succ kj1 =>
      have H := HA.out
      clear HA
      simp only [spec_l01Is.j0] at H
      by_cases c8 : x14_1 = true
      · subst c8
        have H1 : (some false) = some r := by rw [if_pos rfl] at H; exact H
        clear H
        have H := H1
        clear H1
        obtain rfl := Option.some.inj H
        go_wp2
        go_ret
        exact ⟨by first | rfl | (simp [errW_none, errW_some] <;> rfl) | (simp [*, errW_none, errW_some] <;> rfl), by repeat (first | (with_reducible first | exact HB.out | apply below_alloc | apply pw_below_drewN | apply below_drew1 | refine below_set ?_ GE103.out) | exact HB.out)⟩
      · replace c8 := Bool.eq_false_iff.mpr c8
        subst c8
        have H1 : (spec_l01Is.l0 kj1 0 a0_0 l0_1) = some r := by rw [if_neg (show ¬ (false = true) by decide)] at H; exact H
        clear H
        have H := H1
        clear H1
        have H' := Aside0.mk H
        clear H
        go_wp2
        go_loopg [3] kj1 (fun kq v3 w' => ∃ (x3_2 : Int), v3 = .int .i64 x3_2 ∧ Aside0 (spec_l01Is.l0 kq x3_2 a0_0 l0_1 = some r) ∧ Aside0 (kq ≤ kj1) ∧ Aside0 (w'.heap[gb103]? = some (.cells #[.int .i64 a0_0, (.slice A0_1 l0_1.length c0_1)] 28 (0, 0))) ∧ Aside0 (Below w.heap.size w w'))
        case atStart => exact ⟨(0), (by first | rfl | (simp; done) | (simp [*]; done)), H', ⟨Nat.le_refl _⟩, ⟨by (with_reducible repeat (first | refine blk_drewN ?_ _ | refine blk_drew ?_ | refine blk_alloc ?_ _)); exact BK103.out⟩, ⟨by repeat (first | (with_reducible first | exact HB.out | apply below_alloc | apply pw_below_drewN | apply below_drew1 | refine below_set ?_ GE103.out) | exact HB.out)⟩⟩
        case round =>
          clear H'
          try clear c1
          try clear c2
          try clear p2
          try clear c5
          try clear c8
          try clear hcz6_0
          try clear hcz6_1
          try clear hcz7_0
          try clear hcz7_1
          try clear hfz6_0
          try clear hfz6_1
          try clear hfz7_0
          try clear hfz7_1
          try clear p2
          obtain ⟨x3_2, rfl, HA, HK2, BK103, HB⟩ := hrel
          cases gk with
          | zero => exact absurd HA.out (by simp [spec_l01Is.l0])
          | succ k2 =>
            have H := HA.out
            clear HA
            simp only [spec_l01Is.l0] at H
            by_cases c9 : x3_2 < (l0_1.length : Int)
            · rw [if_pos c9] at H
              have c9b0 : decide (x3_2 < (l0_1.length : Int)) = true := decide_eq_true c9
              clear c9
              by_cases c10 : 0 ≤ x3_2
              · rw [if_pos c10] at H
                have c10b0 : decide (0 ≤ x3_2) = true := decide_eq_true c10
                clear c10
                replace H := Option.bind_eq_some_iff.mp H
                obtain ⟨t106, A110, H⟩ := H
                replace H : (if t106 = true then (spec_l01Is.l0 k2 (wrap64 (x3_2 + 1)) a0_0 l0_1) else ((spec_l01In.f (wrap64 (-(rd l0_1 x3_2))) 1 (wrap64 (a0_0 - 1))).bind fun t107 => (if t107 = true then (spec_l01Is.l0 k2 (wrap64 (x3_2 + 1)) a0_0 l0_1) else (some false)))) = some r := H
                have A11 := Aside0.mk A110
                clear A110
                by_cases c12 : t106 = true
                · subst c12
                  have H1 : (spec_l01Is.l0 k2 (wrap64 (x3_2 + 1)) a0_0 l0_1) = some r := by rw [if_pos rfl] at H; exact H
                  clear H
                  have H := H1
                  clear H1
                  have H' := Aside0.mk H
                  clear H
                  have hcz13_0 : wr.cell? ⟨gb103, 0, none⟩ = some (.int .i64 a0_0) := (blk_cell BK103.out 0).trans rfl
                  have hcz13_1 : wr.cell? ⟨gb103, 1, none⟩ = some (.slice A0_1 l0_1.length c0_1) := (blk_cell BK103.out 1).trans rfl
                  have hfz13_0 := blk_frozen BK103.out 0
                  have hfz13_1 := blk_frozen BK103.out 1
                  have p105 : 0 ≤ (x3_2 : Int) := of_decide_eq_true (by first | (with_reducible assumption) | assumption)
                  have q105 : x3_2 < (l0_1.length : Int) := of_decide_eq_true (by first | (with_reducible assumption) | assumption)
                  obtain ⟨ad105, e105, hx105_0⟩ := Kd.at_int HR0_1.out x3_2 p105 q105
                  cases e105
                  replace hx105_0 := (HB.out.cell (World.block_lt_of_cell? w _ hx105_0)).trans hx105_0
                  replace p105 := eq_true p105
                  replace q105 := eq_true q105
                  go_wp2_with (first | ((with_reducible refine gate_callee (f := 22) rfl ?_); refine goesL_ (some 31) rfl rfl Try.func22 (by kernel_rfl) rfl #[.int .i64 (rd l0_1 x3_2), .int .i64 1, .int .i64 (wrap64 (a0_0 - 1))] rfl (by (try simp only [List.map_toArray, List.map_cons, List.map_nil]); first | done | rfl | (simp only [List.length_drop, List.length_take]; rfl)) ?_; (with_reducible refine (spec_l01In.calls (rd l0_1 x3_2) 1 (wrap64 (a0_0 - 1)) true _ A11.out).mono ?_); rintro e w' ⟨rfl, ⟨nd, rfl⟩⟩; refine ⟨_, rfl, ?_⟩))
                  go_roundg k2
                  case measure => have := HJ1.out; have := HK2.out; omega
                  case rel => exact ⟨(wrap64 (x3_2 + 1)), (by first | rfl | (simp; done) | (simp [*]; done)), H', ⟨by have := HJ1.out; have := HK2.out; omega⟩, ⟨by (with_reducible repeat (first | refine blk_drewN ?_ _ | refine blk_drew ?_ | refine blk_alloc ?_ _)); exact BK103.out⟩, ⟨by repeat (first | (with_reducible first | exact HB.out | apply below_alloc | apply pw_below_drewN | apply below_drew1 | refine below_set ?_ GE103.out) | exact HB.out)⟩⟩
                · replace c12 := Bool.eq_false_iff.mpr c12
                  subst c12
                  have H1 : ((spec_l01In.f (wrap64 (-(rd l0_1 x3_2))) 1 (wrap64 (a0_0 - 1))).bind fun t107 => (if t107 = true then (spec_l01Is.l0 k2 (wrap64 (x3_2 + 1)) a0_0 l0_1) else (some false))) = some r := by rw [if_neg (show ¬ (false = true) by decide)] at H; exact H
                  clear H
                  have H := H1
                  clear H1
                  replace H := Option.bind_eq_some_iff.mp H
                  obtain ⟨t107, A140, H⟩ := H
                  replace H : (if t107 = true then (spec_l01Is.l0 k2 (wrap64 (x3_2 + 1)) a0_0 l0_1) else (some false)) = some r := H
                  have A14 := Aside0.mk A140
                  clear A140
                  by_cases c15 : t107 = true
                  · subst c15
                    have H1 : (spec_l01Is.l0 k2 (wrap64 (x3_2 + 1)) a0_0 l0_1) = some r := by rw [if_pos rfl] at H; exact H
                    clear H
                    have H := H1
                    clear H1
                    have H' := Aside0.mk H
                    clear H
                    have hcz16_0 : wr.cell? ⟨gb103, 0, none⟩ = some (.int .i64 a0_0) := (blk_cell BK103.out 0).trans rfl
                    have hcz16_1 : wr.cell? ⟨gb103, 1, none⟩ = some (.slice A0_1 l0_1.length c0_1) := (blk_cell BK103.out 1).trans rfl
                    have hfz16_0 := blk_frozen BK103.out 0
                    have hfz16_1 := blk_frozen BK103.out 1
                    have p105 : 0 ≤ (x3_2 : Int) := of_decide_eq_true (by first | (with_reducible assumption) | assumption)
                    have q105 : x3_2 < (l0_1.length : Int) := of_decide_eq_true (by first | (with_reducible assumption) | assumption)
                    obtain ⟨ad105, e105, hx105_0⟩ := Kd.at_int HR0_1.out x3_2 p105 q105
                    cases e105
                    replace hx105_0 := (HB.out.cell (World.block_lt_of_cell? w _ hx105_0)).trans hx105_0
                    replace p105 := eq_true p105
                    replace q105 := eq_true q105
                    go_wp2_with (first | ((with_reducible refine gate_callee (f := 22) rfl ?_); refine goesL_ (some 31) rfl rfl Try.func22 (by kernel_rfl) rfl #[.int .i64 (rd l0_1 x3_2), .int .i64 1, .int .i64 (wrap64 (a0_0 - 1))] rfl (by (try simp only [List.map_toArray, List.map_cons, List.map_nil]); first | done | rfl | (simp only [List.length_drop, List.length_take]; rfl)) ?_; (with_reducible refine (spec_l01In.calls (rd l0_1 x3_2) 1 (wrap64 (a0_0 - 1)) false _ A11.out).mono ?_); rintro e w' ⟨rfl, ⟨nd, rfl⟩⟩; refine ⟨_, rfl, ?_⟩) | (go_at_call 22; (with_reducible refine (spec_l01In.calls (wrap64 (-(rd l0_1 x3_2))) 1 (wrap64 (a0_0 - 1)) true _ A14.out).mono ?_); rintro e w' ⟨rfl, ⟨nd, rfl⟩⟩))
                    go_roundg k2
                    case measure => have := HJ1.out; have := HK2.out; omega
                    case rel => exact ⟨(wrap64 (x3_2 + 1)), (by first | rfl | (simp; done) | (simp [*]; done)), H', ⟨by have := HJ1.out; have := HK2.out; omega⟩, ⟨by (with_reducible repeat (first | refine blk_drewN ?_ _ | refine blk_drew ?_ | refine blk_alloc ?_ _)); exact BK103.out⟩, ⟨by repeat (first | (with_reducible first | exact HB.out | apply below_alloc | apply pw_below_drewN | apply below_drew1 | refine below_set ?_ GE103.out) | exact HB.out)⟩⟩
                  · replace c15 := Bool.eq_false_iff.mpr c15
                    subst c15
                    have H1 : (some false) = some r := by rw [if_neg (show ¬ (false = true) by decide)] at H; exact H
                    clear H
                    have H := H1
                    clear H1
                    obtain rfl := Option.some.inj H
                    have hcz17_0 : wr.cell? ⟨gb103, 0, none⟩ = some (.int .i64 a0_0) := (blk_cell BK103.out 0).trans rfl
                    have hcz17_1 : wr.cell? ⟨gb103, 1, none⟩ = some (.slice A0_1 l0_1.length c0_1) := (blk_cell BK103.out 1).trans rfl
                    have hfz17_0 := blk_frozen BK103.out 0
                    have hfz17_1 := blk_frozen BK103.out 1
                    have p105 : 0 ≤ (x3_2 : Int) := of_decide_eq_true (by first | (with_reducible assumption) | assumption)
                    have q105 : x3_2 < (l0_1.length : Int) := of_decide_eq_true (by first | (with_reducible assumption) | assumption)
                    obtain ⟨ad105, e105, hx105_0⟩ := Kd.at_int HR0_1.out x3_2 p105 q105
                    cases e105
                    replace hx105_0 := (HB.out.cell (World.block_lt_of_cell? w _ hx105_0)).trans hx105_0
                    replace p105 := eq_true p105
                    replace q105 := eq_true q105
                    go_wp2_with (first | ((with_reducible refine gate_callee (f := 22) rfl ?_); refine goesL_ (some 31) rfl rfl Try.func22 (by kernel_rfl) rfl #[.int .i64 (rd l0_1 x3_2), .int .i64 1, .int .i64 (wrap64 (a0_0 - 1))] rfl (by (try simp only [List.map_toArray, List.map_cons, List.map_nil]); first | done | rfl | (simp only [List.length_drop, List.length_take]; rfl)) ?_; (with_reducible refine (spec_l01In.calls (rd l0_1 x3_2) 1 (wrap64 (a0_0 - 1)) false _ A11.out).mono ?_); rintro e w' ⟨rfl, ⟨nd, rfl⟩⟩; refine ⟨_, rfl, ?_⟩) | (go_at_call 22; (with_reducible refine (spec_l01In.calls (wrap64 (-(rd l0_1 x3_2))) 1 (wrap64 (a0_0 - 1)) false _ A14.out).mono ?_); rintro e w' ⟨rfl, ⟨nd, rfl⟩⟩))
                    go_ret
                    exact ⟨by first | rfl | (simp [errW_none, errW_some] <;> rfl) | (simp [*, errW_none, errW_some] <;> rfl), by repeat (first | (with_reducible first | exact HB.out | apply below_alloc | apply pw_below_drewN | apply below_drew1 | refine below_set ?_ GE103.out) | exact HB.out)⟩
              · rw [if_neg c10] at H
                exact absurd H (by simp)
            · rw [if_neg c9] at H
              have c9b0 : decide (x3_2 < (l0_1.length : Int)) = false := decide_eq_false c9
              clear c9
              obtain rfl := Option.some.inj H
              have hcz18_0 : wr.cell? ⟨gb103, 0, none⟩ = some (.int .i64 a0_0) := (blk_cell BK103.out 0).trans rfl
              have hcz18_1 : wr.cell? ⟨gb103, 1, none⟩ = some (.slice A0_1 l0_1.length c0_1) := (blk_cell BK103.out 1).trans rfl
              have hfz18_0 := blk_frozen BK103.out 0
              have hfz18_1 := blk_frozen BK103.out 1
              go_wp2
              go_ret
              exact ⟨by first | rfl | (simp [errW_none, errW_some] <;> rfl) | (simp [*, errW_none, errW_some] <;> rfl), by repeat (first | (with_reducible first | exact HB.out | apply below_alloc | apply pw_below_drewN | apply below_drew1 | refine below_set ?_ GE103.out) | exact HB.out)⟩

/-! ### spec_l01Strands: function 23 -/
theorem u8w : ∀ n : Fin 256, IntKind.u8.wrap (n.val : Int) = (n.val : Int) := by decide +kernel
theorem u8w' {x : Int} (h : 0 ≤ x ∧ x ≤ 7) : IntKind.u8.wrap x = x := by
  have := u8w ⟨x.toNat, by omega⟩
  simp only at this
  rwa [show ((x.toNat : Nat) : Int) = x by omega] at this
theorem arr_put {W W1 : World} {g : Nat} {xs : List Int} {t : TypeId} (h : W.heap[g]? = some (.cells (xs.map (Value.int .u8)).toArray t (0, 0))) (i : Nat) (v : Int) (hw : W1 = World.setCell W ⟨g, i, none⟩ (.int .u8 v)) : W1.heap[g]? = some (.cells ((xs.set i v).map (Value.int .u8)).toArray t (0, 0)) := by
  rw [hw, blk_set h i]
  congr 2
  simp [List.map_set]
theorem arr_rd {W : World} {g : Nat} {xs : List Int} {t : TypeId} (h : W.heap[g]? = some (.cells (xs.map (Value.int .u8)).toArray t (0, 0))) (x : Int) (hl : xs.length = 8) (h0 : 0 ≤ x) (h1 : x < 8) : W.cell? ⟨g, x.toNat, none⟩ = some (.int .u8 (rd xs x)) ∧ W.frozen? ⟨g, x.toNat, none⟩ = false := by
  refine ⟨(blk_cell h x.toNat).trans ?_, blk_frozen h x.toNat⟩
  have hx : x.toNat < xs.length := by omega
  simp [rd, List.getD_eq_getElem?_getD, hx]
def a8 : List Int := List.replicate 8 0
def fillL : Nat → List Int
  | 0 => a8
  | k + 1 => (fillL k).set k (k : Int)
def In8 (xs : List Int) : Prop := xs.length = 8 ∧ ∀ v ∈ xs, 0 ≤ v ∧ v ≤ 7
theorem In8.set {xs : List Int} (h : In8 xs) (i : Nat) {v : Int} (hv : 0 ≤ v ∧ v ≤ 7) : In8 (xs.set i v) := ⟨by rw [List.length_set]; exact h.1, fun y hy => by
  rcases List.mem_or_eq_of_mem_set hy with h1 | rfl
  · exact h.2 y h1
  · exact hv⟩
theorem In8.at_ {xs : List Int} (h : In8 xs) {x : Int} (h0 : 0 ≤ x) (h1 : x < 8) : 0 ≤ rd xs x ∧ rd xs x ≤ 7 := by
  have hx : x.toNat < xs.length := by rw [h.1]; omega
  refine h.2 _ ?_
  simp [rd, List.getD_eq_getElem?_getD, hx]
theorem a8_in : In8 a8 := ⟨rfl, fun v hv => by rw [(List.mem_replicate.1 hv).2]; omega⟩
theorem fillL_in : ∀ k, k ≤ 8 → In8 (fillL k)
  | 0, _ => a8_in
  | k + 1, h => (fillL_in k (by omega)).set k (by omega)
def sw (xs : List Int) (x : Int) : List Int :=
  let k := mx x (wrap64 (-x))
  (xs.set k.toNat (rd xs (wrap64 (k - 1)))).set (wrap64 (k - 1)).toNat (rd xs k)
def GenK (x : Int) : Prop := 1 ≤ mx x (wrap64 (-x)) ∧ mx x (wrap64 (-x)) ≤ 7
theorem len8 {xs : List Int} (h : xs.length = 8) : ∃ x0 x1 x2 x3 x4 x5 x6 x7, xs = [x0, x1, x2, x3, x4, x5, x6, x7] := by
  match xs, h with
  | [x0, x1, x2, x3, x4, x5, x6, x7], _ => exact ⟨x0, x1, x2, x3, x4, x5, x6, x7, rfl⟩
set_option maxHeartbeats 8000000 in
set_option maxRecDepth 100000 in
theorem strands_calls (n : Int) (hn : 0 ≤ n ∧ n ≤ 8) (A1 : Option Addr) (c1 : Nat) (l1 : List Int) (hg1 : ∀ x ∈ l1, GenK x) (w : World) (hr1 : Kd.C (Kd.int .i64) w A1 l1.length l1) (hc1 : l1.length ≤ c1) :
    Calls Try.prog 23 #[.int .i64 n, .slice A1 l1.length c1] w fun e w' => e = .returned (.agg ((l1.foldl sw (fillL n.toNat)).map (Value.int .u8)).toArray) ∧ Below w.heap.size w w' := by
  have hu := Try.underlying34
  have hu5 := Try.underlying5
  have HR1 := Aside0.mk hr1
  have HC1 := Aside0.mk hc1
  have HGN := Aside0.mk hg1
  have HN := Aside0.mk hn
  clear hr1 hc1 hg1 hn
  have HB := Aside0.mk (Below.refl w.heap.size w)
  go_enter Try.func23, Try.ntmps23
  go_wp2_with (first | ((with_reducible refine gate_dst (N := 4) rfl ?_); refine box_event ?hg (N := 4) ?hd (cs := #[.int .u8 0, .int .u8 0, .int .u8 0, .int .u8 0, .int .u8 0, .int .u8 0, .int .u8 0, .int .u8 0]) (t := 34) ?hr ?_; (case hd => rfl); (case hg => rfl); (case hr => first | (go_simp; done) | (go_simp; rfl)); intro gb4 hg w4 hbox hb; have hge : w.heap.size ≤ gb4 := (by rw [hg]; exact below_size (by repeat (first | (with_reducible first | exact HB.out | apply below_alloc | apply pw_below_drewN | apply below_drew1) | exact HB.out))); have GEgb4 := Aside0.mk hge; clear hge; have hs := below_step (by repeat (first | (with_reducible first | exact HB.out | apply below_alloc | apply pw_below_drewN | apply below_drew1) | exact HB.out)) hb; clear HB; have HB := Aside0.mk hs; have BKgb4 := Aside0.mk hbox; clear hbox hb hs hg; (try clear hzgb4_0 hfgb4_0 hzgb4_1 hfgb4_1 hzgb4_2 hfgb4_2 hzgb4_3 hfgb4_3 hzgb4_4 hfgb4_4 hzgb4_5 hfgb4_5 hzgb4_6 hfgb4_6 hzgb4_7 hfgb4_7); have hzgb4_0 := (blk_cell BKgb4.out 0).trans rfl; have hfgb4_0 := blk_frozen BKgb4.out 0; have hzgb4_1 := (blk_cell BKgb4.out 1).trans rfl; have hfgb4_1 := blk_frozen BKgb4.out 1; have hzgb4_2 := (blk_cell BKgb4.out 2).trans rfl; have hfgb4_2 := blk_frozen BKgb4.out 2; have hzgb4_3 := (blk_cell BKgb4.out 3).trans rfl; have hfgb4_3 := blk_frozen BKgb4.out 3; have hzgb4_4 := (blk_cell BKgb4.out 4).trans rfl; have hfgb4_4 := blk_frozen BKgb4.out 4; have hzgb4_5 := (blk_cell BKgb4.out 5).trans rfl; have hfgb4_5 := blk_frozen BKgb4.out 5; have hzgb4_6 := (blk_cell BKgb4.out 6).trans rfl; have hfgb4_6 := blk_frozen BKgb4.out 6; have hzgb4_7 := (blk_cell BKgb4.out 7).trans rfl; have hfgb4_7 := blk_frozen BKgb4.out 7) | ((with_reducible refine gate_dst (N := 5) rfl ?_); refine box_event ?hg (N := 5) ?hd (cs := #[.int .u8 0, .int .u8 0, .int .u8 0, .int .u8 0, .int .u8 0, .int .u8 0, .int .u8 0, .int .u8 0]) (t := 34) ?hr ?_; (case hd => rfl); (case hg => rfl); (case hr => first | (go_simp; done) | (go_simp; rfl)); intro gb5 hg w5 hbox hb; have hge : w.heap.size ≤ gb5 := (by rw [hg]; exact below_size (by repeat (first | (with_reducible first | exact HB.out | apply below_alloc | apply pw_below_drewN | apply below_drew1) | exact HB.out))); have GEgb5 := Aside0.mk hge; clear hge; have hne : gb4 ≠ gb5 := (by have := blk_lt BKgb4.out; rw [hg]; exact Nat.ne_of_lt (Nat.lt_of_lt_of_le this (Nat.le_refl _))); have NE := Aside0.mk hne; clear hne; have hs := below_step (by repeat (first | (with_reducible first | exact HB.out | apply below_alloc | apply pw_below_drewN | apply below_drew1) | exact HB.out)) hb; have n_ := Aside0.mk (blk_below BKgb4.out hb); clear BKgb4; have BKgb4 := n_; clear n_; clear HB; have HB := Aside0.mk hs; have BKgb5 := Aside0.mk hbox; clear hbox hb hs hg; (try clear hzgb4_0 hfgb4_0 hzgb4_1 hfgb4_1 hzgb4_2 hfgb4_2 hzgb4_3 hfgb4_3 hzgb4_4 hfgb4_4 hzgb4_5 hfgb4_5 hzgb4_6 hfgb4_6 hzgb4_7 hfgb4_7); have hzgb4_0 := (blk_cell BKgb4.out 0).trans rfl; have hfgb4_0 := blk_frozen BKgb4.out 0; have hzgb4_1 := (blk_cell BKgb4.out 1).trans rfl; have hfgb4_1 := blk_frozen BKgb4.out 1; have hzgb4_2 := (blk_cell BKgb4.out 2).trans rfl; have hfgb4_2 := blk_frozen BKgb4.out 2; have hzgb4_3 := (blk_cell BKgb4.out 3).trans rfl; have hfgb4_3 := blk_frozen BKgb4.out 3; have hzgb4_4 := (blk_cell BKgb4.out 4).trans rfl; have hfgb4_4 := blk_frozen BKgb4.out 4; have hzgb4_5 := (blk_cell BKgb4.out 5).trans rfl; have hfgb4_5 := blk_frozen BKgb4.out 5; have hzgb4_6 := (blk_cell BKgb4.out 6).trans rfl; have hfgb4_6 := blk_frozen BKgb4.out 6; have hzgb4_7 := (blk_cell BKgb4.out 7).trans rfl; have hfgb4_7 := blk_frozen BKgb4.out 7; (try clear hzgb5_0 hfgb5_0 hzgb5_1 hfgb5_1 hzgb5_2 hfgb5_2 hzgb5_3 hfgb5_3 hzgb5_4 hfgb5_4 hzgb5_5 hfgb5_5 hzgb5_6 hfgb5_6 hzgb5_7 hfgb5_7); have hzgb5_0 := (blk_cell BKgb5.out 0).trans rfl; have hfgb5_0 := blk_frozen BKgb5.out 0; have hzgb5_1 := (blk_cell BKgb5.out 1).trans rfl; have hfgb5_1 := blk_frozen BKgb5.out 1; have hzgb5_2 := (blk_cell BKgb5.out 2).trans rfl; have hfgb5_2 := blk_frozen BKgb5.out 2; have hzgb5_3 := (blk_cell BKgb5.out 3).trans rfl; have hfgb5_3 := blk_frozen BKgb5.out 3; have hzgb5_4 := (blk_cell BKgb5.out 4).trans rfl; have hfgb5_4 := blk_frozen BKgb5.out 4; have hzgb5_5 := (blk_cell BKgb5.out 5).trans rfl; have hfgb5_5 := blk_frozen BKgb5.out 5; have hzgb5_6 := (blk_cell BKgb5.out 6).trans rfl; have hfgb5_6 := blk_frozen BKgb5.out 6; have hzgb5_7 := (blk_cell BKgb5.out 7).trans rfl; have hfgb5_7 := blk_frozen BKgb5.out 7) | ((with_reducible refine gate_store (t := 34) (p := 5) rfl ?_); refine store_event (t := 34) (p := 5) (v := ?vo_) (w1 := (World.setCell (World.setCell (World.setCell (World.setCell (World.setCell (World.setCell (World.setCell (World.setCell w5 ⟨gb5, 0, none⟩ (.int .u8 0)) ⟨gb5, 1, none⟩ (.int .u8 0)) ⟨gb5, 2, none⟩ (.int .u8 0)) ⟨gb5, 3, none⟩ (.int .u8 0)) ⟨gb5, 4, none⟩ (.int .u8 0)) ⟨gb5, 5, none⟩ (.int .u8 0)) ⟨gb5, 6, none⟩ (.int .u8 0)) ⟨gb5, 7, none⟩ (.int .u8 0))) ?hg ?ho ?hn ?hr ?_; (case ho => rfl); (case hg => rfl); (case hn => rfl); (case hr => first | (go_simp; done) | (go_simp; rfl)); intro w6 hw; have hk : Kept w5 w6 (fun k_ => k_ = gb5) := (by rw [hw]; exact (Kept.setCell (S := fun k_ => k_ = gb5) (Kept.setCell (S := fun k_ => k_ = gb5) (Kept.setCell (S := fun k_ => k_ = gb5) (Kept.setCell (S := fun k_ => k_ = gb5) (Kept.setCell (S := fun k_ => k_ = gb5) (Kept.setCell (S := fun k_ => k_ = gb5) (Kept.setCell (S := fun k_ => k_ = gb5) (Kept.setCell (S := fun k_ => k_ = gb5) (Kept.refl _ _) (p := ⟨gb5, 0, none⟩) (Or.inl rfl) _) (p := ⟨gb5, 1, none⟩) (Or.inl rfl) _) (p := ⟨gb5, 2, none⟩) (Or.inl rfl) _) (p := ⟨gb5, 3, none⟩) (Or.inl rfl) _) (p := ⟨gb5, 4, none⟩) (Or.inl rfl) _) (p := ⟨gb5, 5, none⟩) (Or.inl rfl) _) (p := ⟨gb5, 6, none⟩) (Or.inl rfl) _) (p := ⟨gb5, 7, none⟩) (Or.inl rfl) _)); have hc : w6.heap[gb5]? = some (.cells #[.int .u8 0, .int .u8 0, .int .u8 0, .int .u8 0, .int .u8 0, .int .u8 0, .int .u8 0, .int .u8 0] 34 (0, 0)) := (by rw [hw]; exact (blk_put (blk_put (blk_put (blk_put (blk_put (blk_put (blk_put (blk_put BKgb5.out 0 _ rfl) 1 _ rfl) 2 _ rfl) 3 _ rfl) 4 _ rfl) 5 _ rfl) 6 _ rfl) 7 _ rfl)); have hd : Below w.heap.size w w6 := (by rw [hw]; exact (below_set (below_set (below_set (below_set (below_set (below_set (below_set (below_set HB.out GEgb5.out) GEgb5.out) GEgb5.out) GEgb5.out) GEgb5.out) GEgb5.out) GEgb5.out) GEgb5.out)); have n_ := Aside0.mk (blk_kept BKgb4.out hk (fun hs_ => NE.out (by first | exact hs_ | exact hs_.symm))); clear BKgb4; have BKgb4 := n_; clear n_; clear BKgb5; have BKgb5 := Aside0.mk hc; clear HB; have HB := Aside0.mk hd; clear hk hc hd hw; (try clear hzgb4_0 hfgb4_0 hzgb4_1 hfgb4_1 hzgb4_2 hfgb4_2 hzgb4_3 hfgb4_3 hzgb4_4 hfgb4_4 hzgb4_5 hfgb4_5 hzgb4_6 hfgb4_6 hzgb4_7 hfgb4_7); have hzgb4_0 := (blk_cell BKgb4.out 0).trans rfl; have hfgb4_0 := blk_frozen BKgb4.out 0; have hzgb4_1 := (blk_cell BKgb4.out 1).trans rfl; have hfgb4_1 := blk_frozen BKgb4.out 1; have hzgb4_2 := (blk_cell BKgb4.out 2).trans rfl; have hfgb4_2 := blk_frozen BKgb4.out 2; have hzgb4_3 := (blk_cell BKgb4.out 3).trans rfl; have hfgb4_3 := blk_frozen BKgb4.out 3; have hzgb4_4 := (blk_cell BKgb4.out 4).trans rfl; have hfgb4_4 := blk_frozen BKgb4.out 4; have hzgb4_5 := (blk_cell BKgb4.out 5).trans rfl; have hfgb4_5 := blk_frozen BKgb4.out 5; have hzgb4_6 := (blk_cell BKgb4.out 6).trans rfl; have hfgb4_6 := blk_frozen BKgb4.out 6; have hzgb4_7 := (blk_cell BKgb4.out 7).trans rfl; have hfgb4_7 := blk_frozen BKgb4.out 7; (try clear hzgb5_0 hfgb5_0 hzgb5_1 hfgb5_1 hzgb5_2 hfgb5_2 hzgb5_3 hfgb5_3 hzgb5_4 hfgb5_4 hzgb5_5 hfgb5_5 hzgb5_6 hfgb5_6 hzgb5_7 hfgb5_7); have hzgb5_0 := (blk_cell BKgb5.out 0).trans rfl; have hfgb5_0 := blk_frozen BKgb5.out 0; have hzgb5_1 := (blk_cell BKgb5.out 1).trans rfl; have hfgb5_1 := blk_frozen BKgb5.out 1; have hzgb5_2 := (blk_cell BKgb5.out 2).trans rfl; have hfgb5_2 := blk_frozen BKgb5.out 2; have hzgb5_3 := (blk_cell BKgb5.out 3).trans rfl; have hfgb5_3 := blk_frozen BKgb5.out 3; have hzgb5_4 := (blk_cell BKgb5.out 4).trans rfl; have hfgb5_4 := blk_frozen BKgb5.out 4; have hzgb5_5 := (blk_cell BKgb5.out 5).trans rfl; have hfgb5_5 := blk_frozen BKgb5.out 5; have hzgb5_6 := (blk_cell BKgb5.out 6).trans rfl; have hfgb5_6 := blk_frozen BKgb5.out 6; have hzgb5_7 := (blk_cell BKgb5.out 7).trans rfl; have hfgb5_7 := blk_frozen BKgb5.out 7))
  have BKL := Aside0.mk (show w6.heap[gb5]? = some (.cells ((fillL 0).map (Value.int .u8)).toArray 34 (0, 0)) from BKgb5.out)
  clear BKgb5 hzgb4_0 hzgb4_1 hzgb4_2 hzgb4_3 hzgb4_4 hzgb4_5 hzgb4_6 hzgb4_7 hfgb4_0 hfgb4_1 hfgb4_2 hfgb4_3 hfgb4_4 hfgb4_5 hfgb4_6 hfgb4_7 hzgb5_0 hzgb5_1 hzgb5_2 hzgb5_3 hzgb5_4 hzgb5_5 hzgb5_6 hzgb5_7 hfgb5_0 hfgb5_1 hfgb5_2 hfgb5_3 hfgb5_4 hfgb5_5 hfgb5_6 hfgb5_7
  go_loopg [6] n.toNat (fun gg v6 wr => ∃ x : Int, v6 = .int .i64 x ∧ Aside0 (0 ≤ x ∧ gg + x.toNat = n.toNat) ∧ Aside0 (wr.heap[gb5]? = some (.cells ((fillL x.toNat).map (Value.int .u8)).toArray 34 (0, 0))) ∧ Aside0 (wr.heap[gb4]? = some (.cells #[.int .u8 0, .int .u8 0, .int .u8 0, .int .u8 0, .int .u8 0, .int .u8 0, .int .u8 0, .int .u8 0] 34 (0, 0))) ∧ Aside0 (Below w.heap.size w wr))
  case atStart => exact ⟨0, by first | rfl | (simp; done), ⟨by omega⟩, BKL, BKgb4, HB⟩
  case round =>
    clear BKL BKgb4 HB
    obtain ⟨x, rfl, HK, BKL, BKgb4, HB⟩ := hrel
    by_cases hx : x < n
    · have c1 : decide (x < n) = true := decide_eq_true hx
      have hxx : 0 ≤ x ∧ x < 8 := by have := HN.out; have := HK.out; omega
      have HX := Aside0.mk hxx
      have HXN := Aside0.mk hx
      obtain ⟨hz, hzf⟩ := arr_rd BKL.out x (fillL_in x.toNat (by omega)).1 hxx.1 hxx.2
      have HU := Aside0.mk (u8w' (x := x) (by omega))
      have p1 := eq_true hxx.1
      have q1 := eq_true hxx.2
      have d1 : decide (0 ≤ x) = true := decide_eq_true hxx.1
      have d2 : decide (x < 8) = true := decide_eq_true hxx.2
      clear hx hxx
      go_wp2_with (first | ((with_reducible refine gate_store (t := 5) (p := 19) rfl ?_); refine store_event (t := 5) (p := 19) (v := ?vo_a) (w1 := (World.setCell wr ⟨gb5, (x : Int).toNat, none⟩ (.int .u8 (IntKind.u8.wrap x)))) ?hg ?ho ?hn ?hr ?_; (case ho => rfl); (case hg => rfl); (case hn => rfl); (case hr => first | (go_simp; done) | (go_simp; rfl)); intro w7 hw; have n_ := Aside0.mk (arr_put BKL.out (x : Int).toNat (IntKind.u8.wrap x) hw); clear BKL; have BKL := n_; clear n_; have hk := (by rw [hw]; exact (Kept.setCell (S := fun k_ => k_ = gb5) (Kept.refl _ _) (p := ⟨gb5, _, none⟩) (Or.inl rfl) _) : Kept wr w7 (fun k_ => k_ = gb5)); have n_ := Aside0.mk (blk_kept BKgb4.out hk (fun hs_ => NE.out (by first | exact hs_ | exact hs_.symm))); clear BKgb4; have BKgb4 := n_; clear n_; have n_ := Aside0.mk (show Below w.heap.size w w7 from (by rw [hw]; exact below_set HB.out GEgb5.out)); clear HB; have HB := n_; clear n_ hk hw; skip))
      go_roundg (n.toNat - (x.toNat + 1))
      case measure => have := HK.out; have := HXN.out; omega
      case rel =>
        have HW := Aside0.mk (show wrap64 (x + 1) = x + 1 by have := HX.out; unfold wrap64; omega)
        exact ⟨wrap64 (x + 1), by first | rfl | (simp; done) | (simp [*]; done), ⟨by have := HK.out; have := HXN.out; rw [HW.out]; omega⟩, ⟨by have h1 := BKL.out; rw [HU.out] at h1; rw [HW.out, show (x + 1).toNat = x.toNat + 1 by have := HX.out; omega, fillL, show ((x.toNat : Nat) : Int) = x by have := HX.out; omega]; exact h1⟩, BKgb4, HB⟩
    · have c1 : decide (x < n) = false := decide_eq_false hx
      have ex : x.toNat = n.toNat := by have := HN.out; have := HK.out; omega
      have h1 := BKL.out
      rw [ex] at h1
      clear BKL hx
      have BKL := Aside0.mk h1
      have HIN := Aside0.mk (fillL_in n.toNat (by have := HN.out; omega))
      clear h1
      have HM := Aside0.mk (Kd.C_max HR1.out)
      go_wp2
      go_loopg [7] l1.length (fun gg v7 wr => ∃ z : Int, v7 = .int .i64 z ∧ Aside0 (0 ≤ z ∧ gg + z.toNat = l1.length) ∧ Aside0 (In8 ((l1.take z.toNat).foldl sw (fillL n.toNat))) ∧ Aside0 (wr.heap[gb5]? = some (.cells (((l1.take z.toNat).foldl sw (fillL n.toNat)).map (Value.int .u8)).toArray 34 (0, 0))) ∧ Aside0 (wr.heap[gb4]? = some (.cells #[.int .u8 0, .int .u8 0, .int .u8 0, .int .u8 0, .int .u8 0, .int .u8 0, .int .u8 0, .int .u8 0] 34 (0, 0))) ∧ Aside0 (Below w.heap.size w wr))
      case atStart => exact ⟨0, by first | rfl | (simp; done), ⟨by omega⟩, HIN, BKL, BKgb4, HB⟩
      case round =>
        clear BKL BKgb4 HB HIN HK c1
        obtain ⟨z, rfl, HK, HIN, BKL, BKgb4, HB⟩ := hrel
        by_cases hz : z < (l1.length : Int)
        · have c1 : decide (z < (l1.length : Int)) = true := decide_eq_true hz
          have p1 : 0 ≤ z := HK.out.1
          obtain ⟨ad1, e1, hx1⟩ := Kd.at_int HR1.out z p1 hz
          cases e1
          replace hx1 := (HB.out.cell (World.block_lt_of_cell? w _ hx1)).trans hx1
          have hmem : rd l1 z ∈ l1 := by simp [rd, List.getD_eq_getElem?_getD, show z.toNat < l1.length by omega]
          have hgk := HGN.out _ hmem
          unfold GenK at hgk
          have HT := Aside0.mk (show (l1.take (z.toNat + 1)).foldl sw (fillL n.toNat) = sw ((l1.take z.toNat).foldl sw (fillL n.toNat)) (rd l1 z) by
            rw [List.take_succ_eq_append_getElem (show z.toNat < l1.length by omega), List.foldl_append, List.foldl_cons, List.foldl_nil]
            simp only [rd, List.getD_eq_getElem?_getD, List.getElem?_eq_getElem (show z.toNat < l1.length by omega), Option.getD_some])
          generalize (l1.take z.toNat).foldl sw (fillL n.toNat) = xs at HIN BKL HT
          obtain ⟨kk, hkk⟩ : ∃ kk, mx (rd l1 z) (wrap64 (-(rd l1 z))) = kk := ⟨_, rfl⟩
          have hsw : sw xs (rd l1 z) = (xs.set kk.toNat (rd xs (wrap64 (kk - 1)))).set (wrap64 (kk - 1)).toNat (rd xs kk) := by simp only [sw, hkk]
          rw [hkk] at hgk
          have hjm : wrap64 (kk - 1) = kk - 1 := by unfold wrap64; omega
          obtain ⟨jm, hjm2⟩ : ∃ jm, wrap64 (kk - 1) = jm := ⟨_, rfl⟩
          rw [hjm2] at hsw
          have hjb : 0 ≤ jm ∧ jm < 8 ∧ 0 ≤ kk ∧ kk < 8 := by omega
          have HSW := Aside0.mk hsw
          have HJ := Aside0.mk hjb
          have HZ := Aside0.mk hz
          have hkk_ : (if (rd l1 z) < (wrap64 (-(rd l1 z))) then (wrap64 (-(rd l1 z))) else (rd l1 z)) = kk := hkk
          have hjmw : (IntKind.i64.wrap (kk - 1)) = jm := (i64_w _).trans hjm2
          clear hjm hgk hmem hsw
          obtain ⟨hza, hzaf⟩ := arr_rd BKL.out kk HIN.out.1 hjb.2.2.1 hjb.2.2.2
          obtain ⟨hzb, hzbf⟩ := arr_rd BKL.out jm HIN.out.1 hjb.1 hjb.2.1
          have p2 := eq_true hjb.1
          have p3 := eq_true hjb.2.1
          have p4 := eq_true hjb.2.2.1
          have p5 := eq_true hjb.2.2.2
          replace p1 := eq_true p1
          have q1 := eq_true hz
          have e1 : decide (0 ≤ jm) = true := decide_eq_true hjb.1
          have e2 : decide (jm < 8) = true := decide_eq_true hjb.2.1
          have e3 : decide (0 ≤ kk) = true := decide_eq_true hjb.2.2.1
          have e4 : decide (kk < 8) = true := decide_eq_true hjb.2.2.2
          clear hjb hz
          go_wp2_with (first | ((with_reducible refine gate_store (t := 5) (p := 44) rfl ?_); rw [drewN_self wr]; generalize hq_ : World.drewN wr _ = w7; have n_ := Aside0.mk (show w7.heap[gb5]? = some (.cells (xs.map (Value.int .u8)).toArray 34 (0, 0)) by rw [← hq_]; exact BKL.out); clear BKL; have BKL := n_; clear n_; have n_ := Aside0.mk (show w7.heap[gb4]? = some (.cells #[.int .u8 0, .int .u8 0, .int .u8 0, .int .u8 0, .int .u8 0, .int .u8 0, .int .u8 0, .int .u8 0] 34 (0, 0)) by rw [← hq_]; exact BKgb4.out); clear BKgb4; have BKgb4 := n_; clear n_; have n_ := Aside0.mk (show Below w.heap.size w w7 by rw [← hq_]; exact pw_below_drewN HB.out _); clear HB; have HB := n_; clear n_ hq_ hza hzaf hzb hzbf; obtain ⟨hza, hzaf⟩ := arr_rd BKL.out kk HIN.out.1 HJ.out.2.2.1 HJ.out.2.2.2; obtain ⟨hzb, hzbf⟩ := arr_rd BKL.out jm HIN.out.1 HJ.out.1 HJ.out.2.1; refine store_event (t := 5) (p := 44) (v := ?vo_c44) (w1 := (World.setCell w7 ⟨gb5, (kk : Int).toNat, none⟩ (.int .u8 (rd xs jm)))) ?hg ?ho ?hn ?hr ?_; (case ho => rfl); (case hg => rfl); (case hn => rfl); (case hr => first | (go_simp; done) | (go_simp; rfl)); intro w8 hw; have n_ := Aside0.mk (arr_put BKL.out (kk : Int).toNat (rd xs jm) hw); clear BKL; have BKL := n_; clear n_; have hk := (by rw [hw]; exact (Kept.setCell (S := fun k_ => k_ = gb5) (Kept.refl _ _) (p := ⟨gb5, _, none⟩) (Or.inl rfl) _) : Kept w7 w8 (fun k_ => k_ = gb5)); have n_ := Aside0.mk (blk_kept BKgb4.out hk (fun hs_ => NE.out (by first | exact hs_ | exact hs_.symm))); clear BKgb4; have BKgb4 := n_; clear n_; have n_ := Aside0.mk (show Below w.heap.size w w8 from (by rw [hw]; exact below_set HB.out GEgb5.out)); clear HB; have HB := n_; clear n_ hk hw; clear hza hzaf hzb hzbf; obtain ⟨hzb, hzbf⟩ := arr_rd BKL.out jm ((List.length_set).trans HIN.out.1) HJ.out.1 HJ.out.2.1) | ((with_reducible refine gate_store (t := 5) (p := 48) rfl ?_); refine store_event (t := 5) (p := 48) (v := ?vo_c48) (w1 := (World.setCell w8 ⟨gb5, (jm : Int).toNat, none⟩ (.int .u8 (rd xs kk)))) ?hg ?ho ?hn ?hr ?_; (case ho => rfl); (case hg => rfl); (case hn => rfl); (case hr => first | (go_simp; done) | (go_simp; rfl)); intro w9 hw; have n_ := Aside0.mk (arr_put BKL.out (jm : Int).toNat (rd xs kk) hw); clear BKL; have BKL := n_; clear n_; have hk := (by rw [hw]; exact (Kept.setCell (S := fun k_ => k_ = gb5) (Kept.refl _ _) (p := ⟨gb5, _, none⟩) (Or.inl rfl) _) : Kept w8 w9 (fun k_ => k_ = gb5)); have n_ := Aside0.mk (blk_kept BKgb4.out hk (fun hs_ => NE.out (by first | exact hs_ | exact hs_.symm))); clear BKgb4; have BKgb4 := n_; clear n_; have n_ := Aside0.mk (show Below w.heap.size w w9 from (by rw [hw]; exact below_set HB.out GEgb5.out)); clear HB; have HB := n_; clear n_ hk hw))
          repeat (go_quiet (first | ((with_reducible refine gate_store (t := 5) (p := 44) rfl ?_); rw [drewN_self wr]; generalize hq_ : World.drewN wr _ = w7; have n_ := Aside0.mk (show w7.heap[gb5]? = some (.cells (xs.map (Value.int .u8)).toArray 34 (0, 0)) by rw [← hq_]; exact BKL.out); clear BKL; have BKL := n_; clear n_; have n_ := Aside0.mk (show w7.heap[gb4]? = some (.cells #[.int .u8 0, .int .u8 0, .int .u8 0, .int .u8 0, .int .u8 0, .int .u8 0, .int .u8 0, .int .u8 0] 34 (0, 0)) by rw [← hq_]; exact BKgb4.out); clear BKgb4; have BKgb4 := n_; clear n_; have n_ := Aside0.mk (show Below w.heap.size w w7 by rw [← hq_]; exact pw_below_drewN HB.out _); clear HB; have HB := n_; clear n_ hq_ hza hzaf hzb hzbf; obtain ⟨hza, hzaf⟩ := arr_rd BKL.out kk HIN.out.1 HJ.out.2.2.1 HJ.out.2.2.2; obtain ⟨hzb, hzbf⟩ := arr_rd BKL.out jm HIN.out.1 HJ.out.1 HJ.out.2.1; refine store_event (t := 5) (p := 44) (v := ?vo_c44) (w1 := (World.setCell w7 ⟨gb5, (kk : Int).toNat, none⟩ (.int .u8 (rd xs jm)))) ?hg ?ho ?hn ?hr ?_; (case ho => rfl); (case hg => rfl); (case hn => rfl); (case hr => first | (go_simp; done) | (go_simp; rfl)); intro w8 hw; have n_ := Aside0.mk (arr_put BKL.out (kk : Int).toNat (rd xs jm) hw); clear BKL; have BKL := n_; clear n_; have hk := (by rw [hw]; exact (Kept.setCell (S := fun k_ => k_ = gb5) (Kept.refl _ _) (p := ⟨gb5, _, none⟩) (Or.inl rfl) _) : Kept w7 w8 (fun k_ => k_ = gb5)); have n_ := Aside0.mk (blk_kept BKgb4.out hk (fun hs_ => NE.out (by first | exact hs_ | exact hs_.symm))); clear BKgb4; have BKgb4 := n_; clear n_; have n_ := Aside0.mk (show Below w.heap.size w w8 from (by rw [hw]; exact below_set HB.out GEgb5.out)); clear HB; have HB := n_; clear n_ hk hw; clear hza hzaf hzb hzbf; obtain ⟨hzb, hzbf⟩ := arr_rd BKL.out jm ((List.length_set).trans HIN.out.1) HJ.out.1 HJ.out.2.1) | ((with_reducible refine gate_store (t := 5) (p := 48) rfl ?_); refine store_event (t := 5) (p := 48) (v := ?vo_c48) (w1 := (World.setCell w8 ⟨gb5, (jm : Int).toNat, none⟩ (.int .u8 (rd xs kk)))) ?hg ?ho ?hn ?hr ?_; (case ho => rfl); (case hg => rfl); (case hn => rfl); (case hr => first | (go_simp; done) | (go_simp; rfl)); intro w9 hw; have n_ := Aside0.mk (arr_put BKL.out (jm : Int).toNat (rd xs kk) hw); clear BKL; have BKL := n_; clear n_; have hk := (by rw [hw]; exact (Kept.setCell (S := fun k_ => k_ = gb5) (Kept.refl _ _) (p := ⟨gb5, _, none⟩) (Or.inl rfl) _) : Kept w8 w9 (fun k_ => k_ = gb5)); have n_ := Aside0.mk (blk_kept BKgb4.out hk (fun hs_ => NE.out (by first | exact hs_ | exact hs_.symm))); clear BKgb4; have BKgb4 := n_; clear n_; have n_ := Aside0.mk (show Below w.heap.size w w9 from (by rw [hw]; exact below_set HB.out GEgb5.out)); clear HB; have HB := n_; clear n_ hk hw)); try go_wp2_with (first | ((with_reducible refine gate_store (t := 5) (p := 44) rfl ?_); rw [drewN_self wr]; generalize hq_ : World.drewN wr _ = w7; have n_ := Aside0.mk (show w7.heap[gb5]? = some (.cells (xs.map (Value.int .u8)).toArray 34 (0, 0)) by rw [← hq_]; exact BKL.out); clear BKL; have BKL := n_; clear n_; have n_ := Aside0.mk (show w7.heap[gb4]? = some (.cells #[.int .u8 0, .int .u8 0, .int .u8 0, .int .u8 0, .int .u8 0, .int .u8 0, .int .u8 0, .int .u8 0] 34 (0, 0)) by rw [← hq_]; exact BKgb4.out); clear BKgb4; have BKgb4 := n_; clear n_; have n_ := Aside0.mk (show Below w.heap.size w w7 by rw [← hq_]; exact pw_below_drewN HB.out _); clear HB; have HB := n_; clear n_ hq_ hza hzaf hzb hzbf; obtain ⟨hza, hzaf⟩ := arr_rd BKL.out kk HIN.out.1 HJ.out.2.2.1 HJ.out.2.2.2; obtain ⟨hzb, hzbf⟩ := arr_rd BKL.out jm HIN.out.1 HJ.out.1 HJ.out.2.1; refine store_event (t := 5) (p := 44) (v := ?vo_c44) (w1 := (World.setCell w7 ⟨gb5, (kk : Int).toNat, none⟩ (.int .u8 (rd xs jm)))) ?hg ?ho ?hn ?hr ?_; (case ho => rfl); (case hg => rfl); (case hn => rfl); (case hr => first | (go_simp; done) | (go_simp; rfl)); intro w8 hw; have n_ := Aside0.mk (arr_put BKL.out (kk : Int).toNat (rd xs jm) hw); clear BKL; have BKL := n_; clear n_; have hk := (by rw [hw]; exact (Kept.setCell (S := fun k_ => k_ = gb5) (Kept.refl _ _) (p := ⟨gb5, _, none⟩) (Or.inl rfl) _) : Kept w7 w8 (fun k_ => k_ = gb5)); have n_ := Aside0.mk (blk_kept BKgb4.out hk (fun hs_ => NE.out (by first | exact hs_ | exact hs_.symm))); clear BKgb4; have BKgb4 := n_; clear n_; have n_ := Aside0.mk (show Below w.heap.size w w8 from (by rw [hw]; exact below_set HB.out GEgb5.out)); clear HB; have HB := n_; clear n_ hk hw; clear hza hzaf hzb hzbf; obtain ⟨hzb, hzbf⟩ := arr_rd BKL.out jm ((List.length_set).trans HIN.out.1) HJ.out.1 HJ.out.2.1) | ((with_reducible refine gate_store (t := 5) (p := 48) rfl ?_); refine store_event (t := 5) (p := 48) (v := ?vo_c48) (w1 := (World.setCell w8 ⟨gb5, (jm : Int).toNat, none⟩ (.int .u8 (rd xs kk)))) ?hg ?ho ?hn ?hr ?_; (case ho => rfl); (case hg => rfl); (case hn => rfl); (case hr => first | (go_simp; done) | (go_simp; rfl)); intro w9 hw; have n_ := Aside0.mk (arr_put BKL.out (jm : Int).toNat (rd xs kk) hw); clear BKL; have BKL := n_; clear n_; have hk := (by rw [hw]; exact (Kept.setCell (S := fun k_ => k_ = gb5) (Kept.refl _ _) (p := ⟨gb5, _, none⟩) (Or.inl rfl) _) : Kept w8 w9 (fun k_ => k_ = gb5)); have n_ := Aside0.mk (blk_kept BKgb4.out hk (fun hs_ => NE.out (by first | exact hs_ | exact hs_.symm))); clear BKgb4; have BKgb4 := n_; clear n_; have n_ := Aside0.mk (show Below w.heap.size w w9 from (by rw [hw]; exact below_set HB.out GEgb5.out)); clear HB; have HB := n_; clear n_ hk hw)))
          have HW := Aside0.mk (show wrap64 (z + 1) = z + 1 by have := HM.out; have := HZ.out; have := HK.out; unfold wrap64; omega)
          go_roundg (l1.length - (z.toNat + 1))
          case measure => have := HK.out; have := HZ.out; omega
          case rel =>
            have HZ1 := Aside0.mk (show (z + 1).toNat = z.toNat + 1 by have := HK.out; omega)
            have HR_ := Aside0.mk (HIN.out.at_ HJ.out.1 HJ.out.2.1)
            have HR2_ := Aside0.mk (HIN.out.at_ HJ.out.2.2.1 HJ.out.2.2.2)
            exact ⟨wrap64 (z + 1), by first | rfl | (simp; done) | (simp [*]; done), ⟨by have := HK.out; have := HZ.out; rw [HW.out]; omega⟩, ⟨by rw [HW.out, HZ1.out, HT.out, HSW.out]; exact (HIN.out.set _ HR_.out).set _ HR2_.out⟩, ⟨by rw [HW.out, HZ1.out, HT.out, HSW.out]; exact BKL.out⟩, BKgb4, HB⟩
        · have c1 : decide (z < (l1.length : Int)) = false := decide_eq_false hz
          have ez : l1.take z.toNat = l1 := List.take_of_length_le (by omega)
          have h1 := BKL.out
          have h2 := HIN.out
          rw [ez] at h1 h2
          clear BKL HIN
          obtain ⟨x0, x1, x2, x3, x4, x5, x6, x7, ex⟩ := len8 h2.1
          have HEX := Aside0.mk ex
          rw [ex] at h1
          have BKgb5 := Aside0.mk (show wr.heap[gb5]? = some (.cells #[.int .u8 x0, .int .u8 x1, .int .u8 x2, .int .u8 x3, .int .u8 x4, .int .u8 x5, .int .u8 x6, .int .u8 x7] 34 (0, 0)) from h1)
          clear h1 h2 ez hz ex
          skip; (try clear hzgb4_0 hfgb4_0 hzgb4_1 hfgb4_1 hzgb4_2 hfgb4_2 hzgb4_3 hfgb4_3 hzgb4_4 hfgb4_4 hzgb4_5 hfgb4_5 hzgb4_6 hfgb4_6 hzgb4_7 hfgb4_7); have hzgb4_0 := (blk_cell BKgb4.out 0).trans rfl; have hfgb4_0 := blk_frozen BKgb4.out 0; have hzgb4_1 := (blk_cell BKgb4.out 1).trans rfl; have hfgb4_1 := blk_frozen BKgb4.out 1; have hzgb4_2 := (blk_cell BKgb4.out 2).trans rfl; have hfgb4_2 := blk_frozen BKgb4.out 2; have hzgb4_3 := (blk_cell BKgb4.out 3).trans rfl; have hfgb4_3 := blk_frozen BKgb4.out 3; have hzgb4_4 := (blk_cell BKgb4.out 4).trans rfl; have hfgb4_4 := blk_frozen BKgb4.out 4; have hzgb4_5 := (blk_cell BKgb4.out 5).trans rfl; have hfgb4_5 := blk_frozen BKgb4.out 5; have hzgb4_6 := (blk_cell BKgb4.out 6).trans rfl; have hfgb4_6 := blk_frozen BKgb4.out 6; have hzgb4_7 := (blk_cell BKgb4.out 7).trans rfl; have hfgb4_7 := blk_frozen BKgb4.out 7; (try clear hzgb5_0 hfgb5_0 hzgb5_1 hfgb5_1 hzgb5_2 hfgb5_2 hzgb5_3 hfgb5_3 hzgb5_4 hfgb5_4 hzgb5_5 hfgb5_5 hzgb5_6 hfgb5_6 hzgb5_7 hfgb5_7); have hzgb5_0 := (blk_cell BKgb5.out 0).trans rfl; have hfgb5_0 := blk_frozen BKgb5.out 0; have hzgb5_1 := (blk_cell BKgb5.out 1).trans rfl; have hfgb5_1 := blk_frozen BKgb5.out 1; have hzgb5_2 := (blk_cell BKgb5.out 2).trans rfl; have hfgb5_2 := blk_frozen BKgb5.out 2; have hzgb5_3 := (blk_cell BKgb5.out 3).trans rfl; have hfgb5_3 := blk_frozen BKgb5.out 3; have hzgb5_4 := (blk_cell BKgb5.out 4).trans rfl; have hfgb5_4 := blk_frozen BKgb5.out 4; have hzgb5_5 := (blk_cell BKgb5.out 5).trans rfl; have hfgb5_5 := blk_frozen BKgb5.out 5; have hzgb5_6 := (blk_cell BKgb5.out 6).trans rfl; have hfgb5_6 := blk_frozen BKgb5.out 6; have hzgb5_7 := (blk_cell BKgb5.out 7).trans rfl; have hfgb5_7 := blk_frozen BKgb5.out 7
          go_wp2_with (first | ((with_reducible refine gate_store (t := 34) (p := 4) rfl ?_); refine store_event (t := 34) (p := 4) (v := ?vo_f) (w1 := (World.setCell (World.setCell (World.setCell (World.setCell (World.setCell (World.setCell (World.setCell (World.setCell wr ⟨gb4, 0, none⟩ (.int .u8 x0)) ⟨gb4, 1, none⟩ (.int .u8 x1)) ⟨gb4, 2, none⟩ (.int .u8 x2)) ⟨gb4, 3, none⟩ (.int .u8 x3)) ⟨gb4, 4, none⟩ (.int .u8 x4)) ⟨gb4, 5, none⟩ (.int .u8 x5)) ⟨gb4, 6, none⟩ (.int .u8 x6)) ⟨gb4, 7, none⟩ (.int .u8 x7))) ?hg ?ho ?hn ?hr ?_; (case ho => rfl); (case hg => rfl); (case hn => rfl); (case hr => first | (go_simp; done) | (go_simp; rfl)); intro w10 hw; have hk : Kept wr w10 (fun k_ => k_ = gb4) := (by rw [hw]; exact (Kept.setCell (S := fun k_ => k_ = gb4) (Kept.setCell (S := fun k_ => k_ = gb4) (Kept.setCell (S := fun k_ => k_ = gb4) (Kept.setCell (S := fun k_ => k_ = gb4) (Kept.setCell (S := fun k_ => k_ = gb4) (Kept.setCell (S := fun k_ => k_ = gb4) (Kept.setCell (S := fun k_ => k_ = gb4) (Kept.setCell (S := fun k_ => k_ = gb4) (Kept.refl _ _) (p := ⟨gb4, 0, none⟩) (Or.inl rfl) _) (p := ⟨gb4, 1, none⟩) (Or.inl rfl) _) (p := ⟨gb4, 2, none⟩) (Or.inl rfl) _) (p := ⟨gb4, 3, none⟩) (Or.inl rfl) _) (p := ⟨gb4, 4, none⟩) (Or.inl rfl) _) (p := ⟨gb4, 5, none⟩) (Or.inl rfl) _) (p := ⟨gb4, 6, none⟩) (Or.inl rfl) _) (p := ⟨gb4, 7, none⟩) (Or.inl rfl) _)); have hc : w10.heap[gb4]? = some (.cells #[.int .u8 x0, .int .u8 x1, .int .u8 x2, .int .u8 x3, .int .u8 x4, .int .u8 x5, .int .u8 x6, .int .u8 x7] 34 (0, 0)) := (by rw [hw]; exact (blk_put (blk_put (blk_put (blk_put (blk_put (blk_put (blk_put (blk_put BKgb4.out 0 _ rfl) 1 _ rfl) 2 _ rfl) 3 _ rfl) 4 _ rfl) 5 _ rfl) 6 _ rfl) 7 _ rfl)); have hd : Below w.heap.size w w10 := (by rw [hw]; exact (below_set (below_set (below_set (below_set (below_set (below_set (below_set (below_set HB.out GEgb4.out) GEgb4.out) GEgb4.out) GEgb4.out) GEgb4.out) GEgb4.out) GEgb4.out) GEgb4.out)); have n_ := Aside0.mk (blk_kept BKgb5.out hk (fun hs_ => NE.out (by first | exact hs_ | exact hs_.symm))); clear BKgb5; have BKgb5 := n_; clear n_; clear BKgb4; have BKgb4 := Aside0.mk hc; clear HB; have HB := Aside0.mk hd; clear hk hc hd hw; (try clear hzgb5_0 hfgb5_0 hzgb5_1 hfgb5_1 hzgb5_2 hfgb5_2 hzgb5_3 hfgb5_3 hzgb5_4 hfgb5_4 hzgb5_5 hfgb5_5 hzgb5_6 hfgb5_6 hzgb5_7 hfgb5_7); have hzgb5_0 := (blk_cell BKgb5.out 0).trans rfl; have hfgb5_0 := blk_frozen BKgb5.out 0; have hzgb5_1 := (blk_cell BKgb5.out 1).trans rfl; have hfgb5_1 := blk_frozen BKgb5.out 1; have hzgb5_2 := (blk_cell BKgb5.out 2).trans rfl; have hfgb5_2 := blk_frozen BKgb5.out 2; have hzgb5_3 := (blk_cell BKgb5.out 3).trans rfl; have hfgb5_3 := blk_frozen BKgb5.out 3; have hzgb5_4 := (blk_cell BKgb5.out 4).trans rfl; have hfgb5_4 := blk_frozen BKgb5.out 4; have hzgb5_5 := (blk_cell BKgb5.out 5).trans rfl; have hfgb5_5 := blk_frozen BKgb5.out 5; have hzgb5_6 := (blk_cell BKgb5.out 6).trans rfl; have hfgb5_6 := blk_frozen BKgb5.out 6; have hzgb5_7 := (blk_cell BKgb5.out 7).trans rfl; have hfgb5_7 := blk_frozen BKgb5.out 7; (try clear hzgb4_0 hfgb4_0 hzgb4_1 hfgb4_1 hzgb4_2 hfgb4_2 hzgb4_3 hfgb4_3 hzgb4_4 hfgb4_4 hzgb4_5 hfgb4_5 hzgb4_6 hfgb4_6 hzgb4_7 hfgb4_7); have hzgb4_0 := (blk_cell BKgb4.out 0).trans rfl; have hfgb4_0 := blk_frozen BKgb4.out 0; have hzgb4_1 := (blk_cell BKgb4.out 1).trans rfl; have hfgb4_1 := blk_frozen BKgb4.out 1; have hzgb4_2 := (blk_cell BKgb4.out 2).trans rfl; have hfgb4_2 := blk_frozen BKgb4.out 2; have hzgb4_3 := (blk_cell BKgb4.out 3).trans rfl; have hfgb4_3 := blk_frozen BKgb4.out 3; have hzgb4_4 := (blk_cell BKgb4.out 4).trans rfl; have hfgb4_4 := blk_frozen BKgb4.out 4; have hzgb4_5 := (blk_cell BKgb4.out 5).trans rfl; have hfgb4_5 := blk_frozen BKgb4.out 5; have hzgb4_6 := (blk_cell BKgb4.out 6).trans rfl; have hfgb4_6 := blk_frozen BKgb4.out 6; have hzgb4_7 := (blk_cell BKgb4.out 7).trans rfl; have hfgb4_7 := blk_frozen BKgb4.out 7))
          refine bodyPost_ret (results_cell_row rfl _ _ gb4 34 #[.int .u8 x0, .int .u8 x1, .int .u8 x2, .int .u8 x3, .int .u8 x4, .int .u8 x5, .int .u8 x6, .int .u8 x7] (0, 0) _ rfl BKgb4.out Try.underlying34 rfl (by kernel_rfl)) rfl ?_
          exact ⟨by rw [HEX.out]; rfl, HB.out⟩



/-! ### spec_l01Perm: function 11 -/
theorem sw_in {xs : List Int} (h : In8 xs) {x : Int} (hg : GenK x) : In8 (sw xs x) := by
  unfold GenK at hg
  unfold sw
  generalize mx x (wrap64 (-x)) = k at *
  have hj : wrap64 (k - 1) = k - 1 := by unfold wrap64; omega
  simp only [hj]
  exact (h.set _ (h.at_ (by omega) (by omega))).set _ (h.at_ (by omega) (by omega))
theorem strands_in {n : Int} (hn : 0 ≤ n ∧ n ≤ 8) {l : List Int} (hg : ∀ x ∈ l, GenK x) : In8 (l.foldl sw (fillL n.toNat)) := by
  have h0 := fillL_in n.toNat (by omega)
  generalize fillL n.toNat = xs at h0
  induction l generalizing xs with
  | nil => exact h0
  | cons x l ih => exact ih (fun y hy => hg y (by simp [hy])) _ (sw_in h0 (hg x (by simp)))
def permGo (s : List Int) : Nat → List Int
  | 0 => a8
  | k + 1 => (permGo s k).set (rd s (k : Int)).toNat (k : Int)
theorem permGo_in (s : List Int) : ∀ k, k ≤ 8 → In8 (permGo s k)
  | 0, _ => a8_in
  | k + 1, h => (permGo_in s k (by omega)).set _ (by omega)
def permL (n : Int) (l : List Int) : List Int := permGo (l.foldl sw (fillL n.toNat)) n.toNat
set_option maxHeartbeats 8000000 in
set_option maxRecDepth 100000 in
theorem perm_calls (n : Int) (hn : 0 ≤ n ∧ n ≤ 8) (A1 : Option Addr) (c1 : Nat) (l1 : List Int) (hg1 : ∀ x ∈ l1, GenK x) (w : World) (hr1 : Kd.C (Kd.int .i64) w A1 l1.length l1) (hc1 : l1.length ≤ c1) :
    Calls Try.prog 11 #[.int .i64 n, .slice A1 l1.length c1] w fun e w' => e = .returned (.agg ((permL n l1).map (Value.int .u8)).toArray) ∧ Below w.heap.size w w' := by
  have hu := Try.underlying34
  have hu5 := Try.underlying5
  have HSI := Aside0.mk (strands_in hn hg1)
  have HR1 := Aside0.mk hr1
  have HC1 := Aside0.mk hc1
  have HGN := Aside0.mk hg1
  have HN := Aside0.mk hn
  clear hr1 hc1 hg1 hn
  unfold permL
  obtain ⟨x0, x1, x2, x3, x4, x5, x6, x7, ex⟩ := len8 HSI.out.1
  have HEX := Aside0.mk ex
  clear ex
  have HB := Aside0.mk (Below.refl w.heap.size w)
  go_enter Try.func11, Try.ntmps11
  go_wp2_with (first | ((with_reducible refine gate_dst (N := 4) rfl ?_); refine box_event ?hg (N := 4) ?hd (cs := #[.int .u8 0, .int .u8 0, .int .u8 0, .int .u8 0, .int .u8 0, .int .u8 0, .int .u8 0, .int .u8 0]) (t := 34) ?hr ?_; (case hd => rfl); (case hg => rfl); (case hr => first | (go_simp; done) | (go_simp; rfl)); intro gb4 hg w4 hbox hb; have hge : w.heap.size ≤ gb4 := (by rw [hg]; exact below_size (by repeat (first | (with_reducible first | exact HB.out | apply below_alloc | apply pw_below_drewN | apply below_drew1) | exact HB.out))); have GEgb4 := Aside0.mk hge; clear hge; have hs := below_step (by repeat (first | (with_reducible first | exact HB.out | apply below_alloc | apply pw_below_drewN | apply below_drew1) | exact HB.out)) hb; clear HB; have HB := Aside0.mk hs; have BKgb4 := Aside0.mk hbox; clear hbox hb hs hg; (try clear hzgb4_0 hfgb4_0 hzgb4_1 hfgb4_1 hzgb4_2 hfgb4_2 hzgb4_3 hfgb4_3 hzgb4_4 hfgb4_4 hzgb4_5 hfgb4_5 hzgb4_6 hfgb4_6 hzgb4_7 hfgb4_7); have hzgb4_0 := (blk_cell BKgb4.out 0).trans rfl; have hfgb4_0 := blk_frozen BKgb4.out 0; have hzgb4_1 := (blk_cell BKgb4.out 1).trans rfl; have hfgb4_1 := blk_frozen BKgb4.out 1; have hzgb4_2 := (blk_cell BKgb4.out 2).trans rfl; have hfgb4_2 := blk_frozen BKgb4.out 2; have hzgb4_3 := (blk_cell BKgb4.out 3).trans rfl; have hfgb4_3 := blk_frozen BKgb4.out 3; have hzgb4_4 := (blk_cell BKgb4.out 4).trans rfl; have hfgb4_4 := blk_frozen BKgb4.out 4; have hzgb4_5 := (blk_cell BKgb4.out 5).trans rfl; have hfgb4_5 := blk_frozen BKgb4.out 5; have hzgb4_6 := (blk_cell BKgb4.out 6).trans rfl; have hfgb4_6 := blk_frozen BKgb4.out 6; have hzgb4_7 := (blk_cell BKgb4.out 7).trans rfl; have hfgb4_7 := blk_frozen BKgb4.out 7) | (go_at_call 23; refine (strands_calls n HN.out _ _ l1 HGN.out _ ?side1 HC1.out).mono ?_; (case side1 => repeat (first | exact (Kd.C_below HR1.out HB.out) | (with_reducible refine Kd.C_alloc ?_ _) | (with_reducible refine Kd.C_drewN ?_ _) | (with_reducible refine Kd.C_drew ?_))); rintro e w5 ⟨he, hb⟩; replace he : e = .returned (.agg #[.int .u8 x0, .int .u8 x1, .int .u8 x2, .int .u8 x3, .int .u8 x4, .int .u8 x5, .int .u8 x6, .int .u8 x7]) := he.trans (by rw [HEX.out]; rfl); subst he; have hs := below_step (by repeat (first | (with_reducible first | exact HB.out | apply below_alloc | apply pw_below_drewN | apply below_drew1) | exact HB.out)) hb; have n_ := Aside0.mk (blk_below BKgb4.out hb); clear BKgb4; have BKgb4 := n_; clear n_; clear HB; have HB := Aside0.mk hs; clear hs hb; (try clear hzgb4_0 hfgb4_0 hzgb4_1 hfgb4_1 hzgb4_2 hfgb4_2 hzgb4_3 hfgb4_3 hzgb4_4 hfgb4_4 hzgb4_5 hfgb4_5 hzgb4_6 hfgb4_6 hzgb4_7 hfgb4_7); have hzgb4_0 := (blk_cell BKgb4.out 0).trans rfl; have hfgb4_0 := blk_frozen BKgb4.out 0; have hzgb4_1 := (blk_cell BKgb4.out 1).trans rfl; have hfgb4_1 := blk_frozen BKgb4.out 1; have hzgb4_2 := (blk_cell BKgb4.out 2).trans rfl; have hfgb4_2 := blk_frozen BKgb4.out 2; have hzgb4_3 := (blk_cell BKgb4.out 3).trans rfl; have hfgb4_3 := blk_frozen BKgb4.out 3; have hzgb4_4 := (blk_cell BKgb4.out 4).trans rfl; have hfgb4_4 := blk_frozen BKgb4.out 4; have hzgb4_5 := (blk_cell BKgb4.out 5).trans rfl; have hfgb4_5 := blk_frozen BKgb4.out 5; have hzgb4_6 := (blk_cell BKgb4.out 6).trans rfl; have hfgb4_6 := blk_frozen BKgb4.out 6; have hzgb4_7 := (blk_cell BKgb4.out 7).trans rfl; have hfgb4_7 := blk_frozen BKgb4.out 7) | ((with_reducible refine gate_dst (N := 5) rfl ?_); refine box_event ?hg (N := 5) ?hd (cs := #[.int .u8 0, .int .u8 0, .int .u8 0, .int .u8 0, .int .u8 0, .int .u8 0, .int .u8 0, .int .u8 0]) (t := 34) ?hr ?_; (case hd => rfl); (case hg => rfl); (case hr => first | (go_simp; done) | (go_simp; rfl)); intro gb5 hg w6 hbox hb; have hge : w.heap.size ≤ gb5 := (by rw [hg]; exact below_size (by repeat (first | (with_reducible first | exact HB.out | apply below_alloc | apply pw_below_drewN | apply below_drew1) | exact HB.out))); have GEgb5 := Aside0.mk hge; clear hge; have hne : gb4 ≠ gb5 := (by have := blk_lt BKgb4.out; rw [hg]; exact Nat.ne_of_lt this); have NE45 := Aside0.mk hne; clear hne; have hs := below_step (by repeat (first | (with_reducible first | exact HB.out | apply below_alloc | apply pw_below_drewN | apply below_drew1) | exact HB.out)) hb; have n_ := Aside0.mk (blk_below BKgb4.out hb); clear BKgb4; have BKgb4 := n_; clear n_; clear HB; have HB := Aside0.mk hs; have BKgb5 := Aside0.mk hbox; clear hbox hb hs hg; (try clear hzgb4_0 hfgb4_0 hzgb4_1 hfgb4_1 hzgb4_2 hfgb4_2 hzgb4_3 hfgb4_3 hzgb4_4 hfgb4_4 hzgb4_5 hfgb4_5 hzgb4_6 hfgb4_6 hzgb4_7 hfgb4_7); have hzgb4_0 := (blk_cell BKgb4.out 0).trans rfl; have hfgb4_0 := blk_frozen BKgb4.out 0; have hzgb4_1 := (blk_cell BKgb4.out 1).trans rfl; have hfgb4_1 := blk_frozen BKgb4.out 1; have hzgb4_2 := (blk_cell BKgb4.out 2).trans rfl; have hfgb4_2 := blk_frozen BKgb4.out 2; have hzgb4_3 := (blk_cell BKgb4.out 3).trans rfl; have hfgb4_3 := blk_frozen BKgb4.out 3; have hzgb4_4 := (blk_cell BKgb4.out 4).trans rfl; have hfgb4_4 := blk_frozen BKgb4.out 4; have hzgb4_5 := (blk_cell BKgb4.out 5).trans rfl; have hfgb4_5 := blk_frozen BKgb4.out 5; have hzgb4_6 := (blk_cell BKgb4.out 6).trans rfl; have hfgb4_6 := blk_frozen BKgb4.out 6; have hzgb4_7 := (blk_cell BKgb4.out 7).trans rfl; have hfgb4_7 := blk_frozen BKgb4.out 7; (try clear hzgb5_0 hfgb5_0 hzgb5_1 hfgb5_1 hzgb5_2 hfgb5_2 hzgb5_3 hfgb5_3 hzgb5_4 hfgb5_4 hzgb5_5 hfgb5_5 hzgb5_6 hfgb5_6 hzgb5_7 hfgb5_7); have hzgb5_0 := (blk_cell BKgb5.out 0).trans rfl; have hfgb5_0 := blk_frozen BKgb5.out 0; have hzgb5_1 := (blk_cell BKgb5.out 1).trans rfl; have hfgb5_1 := blk_frozen BKgb5.out 1; have hzgb5_2 := (blk_cell BKgb5.out 2).trans rfl; have hfgb5_2 := blk_frozen BKgb5.out 2; have hzgb5_3 := (blk_cell BKgb5.out 3).trans rfl; have hfgb5_3 := blk_frozen BKgb5.out 3; have hzgb5_4 := (blk_cell BKgb5.out 4).trans rfl; have hfgb5_4 := blk_frozen BKgb5.out 4; have hzgb5_5 := (blk_cell BKgb5.out 5).trans rfl; have hfgb5_5 := blk_frozen BKgb5.out 5; have hzgb5_6 := (blk_cell BKgb5.out 6).trans rfl; have hfgb5_6 := blk_frozen BKgb5.out 6; have hzgb5_7 := (blk_cell BKgb5.out 7).trans rfl; have hfgb5_7 := blk_frozen BKgb5.out 7) | ((with_reducible refine gate_dst (N := 6) rfl ?_); refine box_event ?hg (N := 6) ?hd (cs := #[.int .u8 0, .int .u8 0, .int .u8 0, .int .u8 0, .int .u8 0, .int .u8 0, .int .u8 0, .int .u8 0]) (t := 34) ?hr ?_; (case hd => rfl); (case hg => rfl); (case hr => first | (go_simp; done) | (go_simp; rfl)); intro gb6 hg w7 hbox hb; have hge : w.heap.size ≤ gb6 := (by rw [hg]; exact below_size (by repeat (first | (with_reducible first | exact HB.out | apply below_alloc | apply pw_below_drewN | apply below_drew1) | exact HB.out))); have GEgb6 := Aside0.mk hge; clear hge; have hne : gb4 ≠ gb6 := (by have := blk_lt BKgb4.out; rw [hg]; exact Nat.ne_of_lt this); have NE46 := Aside0.mk hne; clear hne; have hne : gb5 ≠ gb6 := (by have := blk_lt BKgb5.out; rw [hg]; exact Nat.ne_of_lt this); have NE56 := Aside0.mk hne; clear hne; have hs := below_step (by repeat (first | (with_reducible first | exact HB.out | apply below_alloc | apply pw_below_drewN | apply below_drew1) | exact HB.out)) hb; have n_ := Aside0.mk (blk_below BKgb4.out hb); clear BKgb4; have BKgb4 := n_; clear n_; have n_ := Aside0.mk (blk_below BKgb5.out hb); clear BKgb5; have BKgb5 := n_; clear n_; clear HB; have HB := Aside0.mk hs; have BKgb6 := Aside0.mk hbox; clear hbox hb hs hg; (try clear hzgb4_0 hfgb4_0 hzgb4_1 hfgb4_1 hzgb4_2 hfgb4_2 hzgb4_3 hfgb4_3 hzgb4_4 hfgb4_4 hzgb4_5 hfgb4_5 hzgb4_6 hfgb4_6 hzgb4_7 hfgb4_7); have hzgb4_0 := (blk_cell BKgb4.out 0).trans rfl; have hfgb4_0 := blk_frozen BKgb4.out 0; have hzgb4_1 := (blk_cell BKgb4.out 1).trans rfl; have hfgb4_1 := blk_frozen BKgb4.out 1; have hzgb4_2 := (blk_cell BKgb4.out 2).trans rfl; have hfgb4_2 := blk_frozen BKgb4.out 2; have hzgb4_3 := (blk_cell BKgb4.out 3).trans rfl; have hfgb4_3 := blk_frozen BKgb4.out 3; have hzgb4_4 := (blk_cell BKgb4.out 4).trans rfl; have hfgb4_4 := blk_frozen BKgb4.out 4; have hzgb4_5 := (blk_cell BKgb4.out 5).trans rfl; have hfgb4_5 := blk_frozen BKgb4.out 5; have hzgb4_6 := (blk_cell BKgb4.out 6).trans rfl; have hfgb4_6 := blk_frozen BKgb4.out 6; have hzgb4_7 := (blk_cell BKgb4.out 7).trans rfl; have hfgb4_7 := blk_frozen BKgb4.out 7; (try clear hzgb5_0 hfgb5_0 hzgb5_1 hfgb5_1 hzgb5_2 hfgb5_2 hzgb5_3 hfgb5_3 hzgb5_4 hfgb5_4 hzgb5_5 hfgb5_5 hzgb5_6 hfgb5_6 hzgb5_7 hfgb5_7); have hzgb5_0 := (blk_cell BKgb5.out 0).trans rfl; have hfgb5_0 := blk_frozen BKgb5.out 0; have hzgb5_1 := (blk_cell BKgb5.out 1).trans rfl; have hfgb5_1 := blk_frozen BKgb5.out 1; have hzgb5_2 := (blk_cell BKgb5.out 2).trans rfl; have hfgb5_2 := blk_frozen BKgb5.out 2; have hzgb5_3 := (blk_cell BKgb5.out 3).trans rfl; have hfgb5_3 := blk_frozen BKgb5.out 3; have hzgb5_4 := (blk_cell BKgb5.out 4).trans rfl; have hfgb5_4 := blk_frozen BKgb5.out 4; have hzgb5_5 := (blk_cell BKgb5.out 5).trans rfl; have hfgb5_5 := blk_frozen BKgb5.out 5; have hzgb5_6 := (blk_cell BKgb5.out 6).trans rfl; have hfgb5_6 := blk_frozen BKgb5.out 6; have hzgb5_7 := (blk_cell BKgb5.out 7).trans rfl; have hfgb5_7 := blk_frozen BKgb5.out 7; (try clear hzgb6_0 hfgb6_0 hzgb6_1 hfgb6_1 hzgb6_2 hfgb6_2 hzgb6_3 hfgb6_3 hzgb6_4 hfgb6_4 hzgb6_5 hfgb6_5 hzgb6_6 hfgb6_6 hzgb6_7 hfgb6_7); have hzgb6_0 := (blk_cell BKgb6.out 0).trans rfl; have hfgb6_0 := blk_frozen BKgb6.out 0; have hzgb6_1 := (blk_cell BKgb6.out 1).trans rfl; have hfgb6_1 := blk_frozen BKgb6.out 1; have hzgb6_2 := (blk_cell BKgb6.out 2).trans rfl; have hfgb6_2 := blk_frozen BKgb6.out 2; have hzgb6_3 := (blk_cell BKgb6.out 3).trans rfl; have hfgb6_3 := blk_frozen BKgb6.out 3; have hzgb6_4 := (blk_cell BKgb6.out 4).trans rfl; have hfgb6_4 := blk_frozen BKgb6.out 4; have hzgb6_5 := (blk_cell BKgb6.out 5).trans rfl; have hfgb6_5 := blk_frozen BKgb6.out 5; have hzgb6_6 := (blk_cell BKgb6.out 6).trans rfl; have hfgb6_6 := blk_frozen BKgb6.out 6; have hzgb6_7 := (blk_cell BKgb6.out 7).trans rfl; have hfgb6_7 := blk_frozen BKgb6.out 7) | ((with_reducible refine gate_store (t := 34) (p := 5) rfl ?_); refine store_event (t := 34) (p := 5) (v := ?vo_s5) (w1 := (World.setCell (World.setCell (World.setCell (World.setCell (World.setCell (World.setCell (World.setCell (World.setCell w7 ⟨gb5, 0, none⟩ (.int .u8 x0)) ⟨gb5, 1, none⟩ (.int .u8 x1)) ⟨gb5, 2, none⟩ (.int .u8 x2)) ⟨gb5, 3, none⟩ (.int .u8 x3)) ⟨gb5, 4, none⟩ (.int .u8 x4)) ⟨gb5, 5, none⟩ (.int .u8 x5)) ⟨gb5, 6, none⟩ (.int .u8 x6)) ⟨gb5, 7, none⟩ (.int .u8 x7))) ?hg ?ho ?hn ?hr ?_; (case ho => rfl); (case hg => rfl); (case hn => rfl); (case hr => first | (go_simp; done) | (go_simp; rfl)); intro w8 hw; have hk : Kept w7 w8 (fun k_ => k_ = gb5) := (by rw [hw]; exact (Kept.setCell (S := fun k_ => k_ = gb5) (Kept.setCell (S := fun k_ => k_ = gb5) (Kept.setCell (S := fun k_ => k_ = gb5) (Kept.setCell (S := fun k_ => k_ = gb5) (Kept.setCell (S := fun k_ => k_ = gb5) (Kept.setCell (S := fun k_ => k_ = gb5) (Kept.setCell (S := fun k_ => k_ = gb5) (Kept.setCell (S := fun k_ => k_ = gb5) (Kept.refl _ _) (p := ⟨gb5, 0, none⟩) (Or.inl rfl) _) (p := ⟨gb5, 1, none⟩) (Or.inl rfl) _) (p := ⟨gb5, 2, none⟩) (Or.inl rfl) _) (p := ⟨gb5, 3, none⟩) (Or.inl rfl) _) (p := ⟨gb5, 4, none⟩) (Or.inl rfl) _) (p := ⟨gb5, 5, none⟩) (Or.inl rfl) _) (p := ⟨gb5, 6, none⟩) (Or.inl rfl) _) (p := ⟨gb5, 7, none⟩) (Or.inl rfl) _)); have hc : w8.heap[gb5]? = some (.cells #[.int .u8 x0, .int .u8 x1, .int .u8 x2, .int .u8 x3, .int .u8 x4, .int .u8 x5, .int .u8 x6, .int .u8 x7] 34 (0, 0)) := (by rw [hw]; exact (blk_put (blk_put (blk_put (blk_put (blk_put (blk_put (blk_put (blk_put BKgb5.out 0 _ rfl) 1 _ rfl) 2 _ rfl) 3 _ rfl) 4 _ rfl) 5 _ rfl) 6 _ rfl) 7 _ rfl)); have hd : Below w.heap.size w w8 := (by rw [hw]; exact (below_set (below_set (below_set (below_set (below_set (below_set (below_set (below_set HB.out GEgb5.out) GEgb5.out) GEgb5.out) GEgb5.out) GEgb5.out) GEgb5.out) GEgb5.out) GEgb5.out)); have n_ := Aside0.mk (blk_kept BKgb4.out hk (fun hs_ => NE45.out (by first | exact hs_ | exact hs_.symm))); clear BKgb4; have BKgb4 := n_; clear n_; have n_ := Aside0.mk (blk_kept BKgb6.out hk (fun hs_ => NE56.out (by first | exact hs_ | exact hs_.symm))); clear BKgb6; have BKgb6 := n_; clear n_; clear BKgb5; have BKgb5 := Aside0.mk hc; clear HB; have HB := Aside0.mk hd; clear hk hc hd hw; (try clear hzgb4_0 hfgb4_0 hzgb4_1 hfgb4_1 hzgb4_2 hfgb4_2 hzgb4_3 hfgb4_3 hzgb4_4 hfgb4_4 hzgb4_5 hfgb4_5 hzgb4_6 hfgb4_6 hzgb4_7 hfgb4_7); have hzgb4_0 := (blk_cell BKgb4.out 0).trans rfl; have hfgb4_0 := blk_frozen BKgb4.out 0; have hzgb4_1 := (blk_cell BKgb4.out 1).trans rfl; have hfgb4_1 := blk_frozen BKgb4.out 1; have hzgb4_2 := (blk_cell BKgb4.out 2).trans rfl; have hfgb4_2 := blk_frozen BKgb4.out 2; have hzgb4_3 := (blk_cell BKgb4.out 3).trans rfl; have hfgb4_3 := blk_frozen BKgb4.out 3; have hzgb4_4 := (blk_cell BKgb4.out 4).trans rfl; have hfgb4_4 := blk_frozen BKgb4.out 4; have hzgb4_5 := (blk_cell BKgb4.out 5).trans rfl; have hfgb4_5 := blk_frozen BKgb4.out 5; have hzgb4_6 := (blk_cell BKgb4.out 6).trans rfl; have hfgb4_6 := blk_frozen BKgb4.out 6; have hzgb4_7 := (blk_cell BKgb4.out 7).trans rfl; have hfgb4_7 := blk_frozen BKgb4.out 7; (try clear hzgb6_0 hfgb6_0 hzgb6_1 hfgb6_1 hzgb6_2 hfgb6_2 hzgb6_3 hfgb6_3 hzgb6_4 hfgb6_4 hzgb6_5 hfgb6_5 hzgb6_6 hfgb6_6 hzgb6_7 hfgb6_7); have hzgb6_0 := (blk_cell BKgb6.out 0).trans rfl; have hfgb6_0 := blk_frozen BKgb6.out 0; have hzgb6_1 := (blk_cell BKgb6.out 1).trans rfl; have hfgb6_1 := blk_frozen BKgb6.out 1; have hzgb6_2 := (blk_cell BKgb6.out 2).trans rfl; have hfgb6_2 := blk_frozen BKgb6.out 2; have hzgb6_3 := (blk_cell BKgb6.out 3).trans rfl; have hfgb6_3 := blk_frozen BKgb6.out 3; have hzgb6_4 := (blk_cell BKgb6.out 4).trans rfl; have hfgb6_4 := blk_frozen BKgb6.out 4; have hzgb6_5 := (blk_cell BKgb6.out 5).trans rfl; have hfgb6_5 := blk_frozen BKgb6.out 5; have hzgb6_6 := (blk_cell BKgb6.out 6).trans rfl; have hfgb6_6 := blk_frozen BKgb6.out 6; have hzgb6_7 := (blk_cell BKgb6.out 7).trans rfl; have hfgb6_7 := blk_frozen BKgb6.out 7; (try clear hzgb5_0 hfgb5_0 hzgb5_1 hfgb5_1 hzgb5_2 hfgb5_2 hzgb5_3 hfgb5_3 hzgb5_4 hfgb5_4 hzgb5_5 hfgb5_5 hzgb5_6 hfgb5_6 hzgb5_7 hfgb5_7); have hzgb5_0 := (blk_cell BKgb5.out 0).trans rfl; have hfgb5_0 := blk_frozen BKgb5.out 0; have hzgb5_1 := (blk_cell BKgb5.out 1).trans rfl; have hfgb5_1 := blk_frozen BKgb5.out 1; have hzgb5_2 := (blk_cell BKgb5.out 2).trans rfl; have hfgb5_2 := blk_frozen BKgb5.out 2; have hzgb5_3 := (blk_cell BKgb5.out 3).trans rfl; have hfgb5_3 := blk_frozen BKgb5.out 3; have hzgb5_4 := (blk_cell BKgb5.out 4).trans rfl; have hfgb5_4 := blk_frozen BKgb5.out 4; have hzgb5_5 := (blk_cell BKgb5.out 5).trans rfl; have hfgb5_5 := blk_frozen BKgb5.out 5; have hzgb5_6 := (blk_cell BKgb5.out 6).trans rfl; have hfgb5_6 := blk_frozen BKgb5.out 6; have hzgb5_7 := (blk_cell BKgb5.out 7).trans rfl; have hfgb5_7 := blk_frozen BKgb5.out 7) | ((with_reducible refine gate_store (t := 34) (p := 6) rfl ?_); refine store_event (t := 34) (p := 6) (v := ?vo_s6) (w1 := (World.setCell (World.setCell (World.setCell (World.setCell (World.setCell (World.setCell (World.setCell (World.setCell w8 ⟨gb6, 0, none⟩ (.int .u8 0)) ⟨gb6, 1, none⟩ (.int .u8 0)) ⟨gb6, 2, none⟩ (.int .u8 0)) ⟨gb6, 3, none⟩ (.int .u8 0)) ⟨gb6, 4, none⟩ (.int .u8 0)) ⟨gb6, 5, none⟩ (.int .u8 0)) ⟨gb6, 6, none⟩ (.int .u8 0)) ⟨gb6, 7, none⟩ (.int .u8 0))) ?hg ?ho ?hn ?hr ?_; (case ho => rfl); (case hg => rfl); (case hn => rfl); (case hr => first | (go_simp; done) | (go_simp; rfl)); intro w9 hw; have hk : Kept w8 w9 (fun k_ => k_ = gb6) := (by rw [hw]; exact (Kept.setCell (S := fun k_ => k_ = gb6) (Kept.setCell (S := fun k_ => k_ = gb6) (Kept.setCell (S := fun k_ => k_ = gb6) (Kept.setCell (S := fun k_ => k_ = gb6) (Kept.setCell (S := fun k_ => k_ = gb6) (Kept.setCell (S := fun k_ => k_ = gb6) (Kept.setCell (S := fun k_ => k_ = gb6) (Kept.setCell (S := fun k_ => k_ = gb6) (Kept.refl _ _) (p := ⟨gb6, 0, none⟩) (Or.inl rfl) _) (p := ⟨gb6, 1, none⟩) (Or.inl rfl) _) (p := ⟨gb6, 2, none⟩) (Or.inl rfl) _) (p := ⟨gb6, 3, none⟩) (Or.inl rfl) _) (p := ⟨gb6, 4, none⟩) (Or.inl rfl) _) (p := ⟨gb6, 5, none⟩) (Or.inl rfl) _) (p := ⟨gb6, 6, none⟩) (Or.inl rfl) _) (p := ⟨gb6, 7, none⟩) (Or.inl rfl) _)); have hc : w9.heap[gb6]? = some (.cells #[.int .u8 0, .int .u8 0, .int .u8 0, .int .u8 0, .int .u8 0, .int .u8 0, .int .u8 0, .int .u8 0] 34 (0, 0)) := (by rw [hw]; exact (blk_put (blk_put (blk_put (blk_put (blk_put (blk_put (blk_put (blk_put BKgb6.out 0 _ rfl) 1 _ rfl) 2 _ rfl) 3 _ rfl) 4 _ rfl) 5 _ rfl) 6 _ rfl) 7 _ rfl)); have hd : Below w.heap.size w w9 := (by rw [hw]; exact (below_set (below_set (below_set (below_set (below_set (below_set (below_set (below_set HB.out GEgb6.out) GEgb6.out) GEgb6.out) GEgb6.out) GEgb6.out) GEgb6.out) GEgb6.out) GEgb6.out)); have n_ := Aside0.mk (blk_kept BKgb4.out hk (fun hs_ => NE46.out (by first | exact hs_ | exact hs_.symm))); clear BKgb4; have BKgb4 := n_; clear n_; have n_ := Aside0.mk (blk_kept BKgb5.out hk (fun hs_ => NE56.out (by first | exact hs_ | exact hs_.symm))); clear BKgb5; have BKgb5 := n_; clear n_; clear BKgb6; have BKgb6 := Aside0.mk hc; clear HB; have HB := Aside0.mk hd; clear hk hc hd hw; (try clear hzgb4_0 hfgb4_0 hzgb4_1 hfgb4_1 hzgb4_2 hfgb4_2 hzgb4_3 hfgb4_3 hzgb4_4 hfgb4_4 hzgb4_5 hfgb4_5 hzgb4_6 hfgb4_6 hzgb4_7 hfgb4_7); have hzgb4_0 := (blk_cell BKgb4.out 0).trans rfl; have hfgb4_0 := blk_frozen BKgb4.out 0; have hzgb4_1 := (blk_cell BKgb4.out 1).trans rfl; have hfgb4_1 := blk_frozen BKgb4.out 1; have hzgb4_2 := (blk_cell BKgb4.out 2).trans rfl; have hfgb4_2 := blk_frozen BKgb4.out 2; have hzgb4_3 := (blk_cell BKgb4.out 3).trans rfl; have hfgb4_3 := blk_frozen BKgb4.out 3; have hzgb4_4 := (blk_cell BKgb4.out 4).trans rfl; have hfgb4_4 := blk_frozen BKgb4.out 4; have hzgb4_5 := (blk_cell BKgb4.out 5).trans rfl; have hfgb4_5 := blk_frozen BKgb4.out 5; have hzgb4_6 := (blk_cell BKgb4.out 6).trans rfl; have hfgb4_6 := blk_frozen BKgb4.out 6; have hzgb4_7 := (blk_cell BKgb4.out 7).trans rfl; have hfgb4_7 := blk_frozen BKgb4.out 7; (try clear hzgb5_0 hfgb5_0 hzgb5_1 hfgb5_1 hzgb5_2 hfgb5_2 hzgb5_3 hfgb5_3 hzgb5_4 hfgb5_4 hzgb5_5 hfgb5_5 hzgb5_6 hfgb5_6 hzgb5_7 hfgb5_7); have hzgb5_0 := (blk_cell BKgb5.out 0).trans rfl; have hfgb5_0 := blk_frozen BKgb5.out 0; have hzgb5_1 := (blk_cell BKgb5.out 1).trans rfl; have hfgb5_1 := blk_frozen BKgb5.out 1; have hzgb5_2 := (blk_cell BKgb5.out 2).trans rfl; have hfgb5_2 := blk_frozen BKgb5.out 2; have hzgb5_3 := (blk_cell BKgb5.out 3).trans rfl; have hfgb5_3 := blk_frozen BKgb5.out 3; have hzgb5_4 := (blk_cell BKgb5.out 4).trans rfl; have hfgb5_4 := blk_frozen BKgb5.out 4; have hzgb5_5 := (blk_cell BKgb5.out 5).trans rfl; have hfgb5_5 := blk_frozen BKgb5.out 5; have hzgb5_6 := (blk_cell BKgb5.out 6).trans rfl; have hfgb5_6 := blk_frozen BKgb5.out 6; have hzgb5_7 := (blk_cell BKgb5.out 7).trans rfl; have hfgb5_7 := blk_frozen BKgb5.out 7; (try clear hzgb6_0 hfgb6_0 hzgb6_1 hfgb6_1 hzgb6_2 hfgb6_2 hzgb6_3 hfgb6_3 hzgb6_4 hfgb6_4 hzgb6_5 hfgb6_5 hzgb6_6 hfgb6_6 hzgb6_7 hfgb6_7); have hzgb6_0 := (blk_cell BKgb6.out 0).trans rfl; have hfgb6_0 := blk_frozen BKgb6.out 0; have hzgb6_1 := (blk_cell BKgb6.out 1).trans rfl; have hfgb6_1 := blk_frozen BKgb6.out 1; have hzgb6_2 := (blk_cell BKgb6.out 2).trans rfl; have hfgb6_2 := blk_frozen BKgb6.out 2; have hzgb6_3 := (blk_cell BKgb6.out 3).trans rfl; have hfgb6_3 := blk_frozen BKgb6.out 3; have hzgb6_4 := (blk_cell BKgb6.out 4).trans rfl; have hfgb6_4 := blk_frozen BKgb6.out 4; have hzgb6_5 := (blk_cell BKgb6.out 5).trans rfl; have hfgb6_5 := blk_frozen BKgb6.out 5; have hzgb6_6 := (blk_cell BKgb6.out 6).trans rfl; have hfgb6_6 := blk_frozen BKgb6.out 6; have hzgb6_7 := (blk_cell BKgb6.out 7).trans rfl; have hfgb6_7 := blk_frozen BKgb6.out 7))
  obtain ⟨s, hs⟩ : ∃ s, l1.foldl sw (fillL n.toNat) = s := ⟨_, rfl⟩
  have hsi := HSI.out
  have hex := HEX.out
  rw [hs] at hsi hex
  clear HSI HEX
  have HSI := Aside0.mk hsi
  have HQ := Aside0.mk hs
  have BKL := Aside0.mk (show w9.heap[gb6]? = some (.cells ((permGo s 0).map (Value.int .u8)).toArray 34 (0, 0)) from BKgb6.out)
  have BKS := Aside0.mk (show w9.heap[gb5]? = some (.cells (s.map (Value.int .u8)).toArray 34 (0, 0)) by rw [hex]; exact BKgb5.out)
  clear hsi hex hs BKgb5 BKgb6 hzgb4_0 hfgb4_0 hzgb4_1 hfgb4_1 hzgb4_2 hfgb4_2 hzgb4_3 hfgb4_3 hzgb4_4 hfgb4_4 hzgb4_5 hfgb4_5 hzgb4_6 hfgb4_6 hzgb4_7 hfgb4_7 hzgb5_0 hfgb5_0 hzgb5_1 hfgb5_1 hzgb5_2 hfgb5_2 hzgb5_3 hfgb5_3 hzgb5_4 hfgb5_4 hzgb5_5 hfgb5_5 hzgb5_6 hfgb5_6 hzgb5_7 hfgb5_7 hzgb6_0 hfgb6_0 hzgb6_1 hfgb6_1 hzgb6_2 hfgb6_2 hzgb6_3 hfgb6_3 hzgb6_4 hfgb6_4 hzgb6_5 hfgb6_5 hzgb6_6 hfgb6_6 hzgb6_7 hfgb6_7
  go_loopg [7] n.toNat (fun gg v7 wr => ∃ x : Int, v7 = .int .i64 x ∧ Aside0 (0 ≤ x ∧ gg + x.toNat = n.toNat) ∧ Aside0 (wr.heap[gb6]? = some (.cells ((permGo s x.toNat).map (Value.int .u8)).toArray 34 (0, 0))) ∧ Aside0 (wr.heap[gb5]? = some (.cells (s.map (Value.int .u8)).toArray 34 (0, 0))) ∧ Aside0 (wr.heap[gb4]? = some (.cells #[.int .u8 0, .int .u8 0, .int .u8 0, .int .u8 0, .int .u8 0, .int .u8 0, .int .u8 0, .int .u8 0] 34 (0, 0))) ∧ Aside0 (Below w.heap.size w wr))
  case atStart => exact ⟨0, by first | rfl | (simp; done), ⟨by omega⟩, BKL, BKS, BKgb4, HB⟩
  case round =>
    clear BKL BKS BKgb4 HB
    obtain ⟨x, rfl, HK, BKL, BKS, BKgb4, HB⟩ := hrel
    by_cases hx : x < n
    · have c1 : decide (x < n) = true := decide_eq_true hx
      have hxx : 0 ≤ x ∧ x < 8 := by have := HN.out; have := HK.out; omega
      have HX := Aside0.mk hxx
      have HXN := Aside0.mk hx
      obtain ⟨hz, hzf⟩ := arr_rd BKS.out x HSI.out.1 hxx.1 hxx.2
      have hsv := HSI.out.at_ hxx.1 hxx.2
      obtain ⟨sv, hsve⟩ : ∃ sv, rd s x = sv := ⟨_, rfl⟩
      rw [hsve] at hz hsv
      have HSV := Aside0.mk hsve
      obtain ⟨hy, hyf⟩ := arr_rd BKL.out sv (permGo_in s x.toNat (by omega)).1 hsv.1 (by omega)
      have HU := Aside0.mk (u8w' (x := x) (by omega))
      have HSB := Aside0.mk hsv
      have p1 := eq_true hxx.1
      have q1 := eq_true hxx.2
      have p2 := eq_true hsv.1
      have q2 := eq_true (show sv < 8 by omega)
      have d1 : decide (0 ≤ x) = true := decide_eq_true hxx.1
      have d2 : decide (x < 8) = true := decide_eq_true hxx.2
      have d3 : decide (0 ≤ sv) = true := decide_eq_true hsv.1
      have d4 : decide (sv < 8) = true := decide_eq_true (by omega)
      clear hx hxx hsv hsve
      go_wp2_with (first | ((with_reducible refine gate_store (t := 5) (p := 22) rfl ?_); refine store_event (t := 5) (p := 22) (v := ?vo_t) (w1 := (World.setCell wr ⟨gb6, (sv : Int).toNat, none⟩ (.int .u8 (IntKind.u8.wrap x)))) ?hg ?ho ?hn ?hr ?_; (case ho => rfl); (case hg => rfl); (case hn => rfl); (case hr => first | (go_simp; done) | (go_simp; rfl)); intro w7b hw; have n_ := Aside0.mk (arr_put BKL.out (sv : Int).toNat (IntKind.u8.wrap x) hw); clear BKL; have BKL := n_; clear n_; have hk := (by rw [hw]; exact (Kept.setCell (S := fun k_ => k_ = gb6) (Kept.refl _ _) (p := ⟨gb6, _, none⟩) (Or.inl rfl) _) : Kept wr w7b (fun k_ => k_ = gb6)); have n_ := Aside0.mk (blk_kept BKgb4.out hk (fun hs_ => NE46.out hs_)); clear BKgb4; have BKgb4 := n_; clear n_; have n_ := Aside0.mk (blk_kept BKS.out hk (fun hs_ => NE56.out hs_)); clear BKS; have BKS := n_; clear n_; have n_ := Aside0.mk (show Below w.heap.size w w7b from (by rw [hw]; exact below_set HB.out GEgb6.out)); clear HB; have HB := n_; clear n_ hk hw))
      go_roundg (n.toNat - (x.toNat + 1))
      case measure => have := HK.out; have := HXN.out; omega
      case rel =>
        have HW := Aside0.mk (show wrap64 (x + 1) = x + 1 by have := HX.out; unfold wrap64; omega)
        exact ⟨wrap64 (x + 1), by first | rfl | (simp; done) | (simp [*]; done), ⟨by have := HK.out; have := HXN.out; rw [HW.out]; omega⟩, ⟨by have h1 := BKL.out; rw [HU.out] at h1; rw [HW.out, show (x + 1).toNat = x.toNat + 1 by have := HX.out; omega, permGo, show ((x.toNat : Nat) : Int) = x by have := HX.out; omega, HSV.out]; exact h1⟩, BKS, BKgb4, HB⟩
    · have c1 : decide (x < n) = false := decide_eq_false hx
      have ez : x.toNat = n.toNat := by have := HN.out; have := HK.out; omega
      have h1 := BKL.out
      rw [ez] at h1
      have h2 := permGo_in s n.toNat (by have := HN.out; omega)
      clear BKL hx ez
      obtain ⟨y0, y1, y2, y3, y4, y5, y6, y7, ey⟩ := len8 h2.1
      have HEY := Aside0.mk ey
      rw [ey] at h1
      have BKgb6 := Aside0.mk (show wr.heap[gb6]? = some (.cells #[.int .u8 y0, .int .u8 y1, .int .u8 y2, .int .u8 y3, .int .u8 y4, .int .u8 y5, .int .u8 y6, .int .u8 y7] 34 (0, 0)) from h1)
      clear h1 h2 ey
      skip; (try clear hzgb4_0 hfgb4_0 hzgb4_1 hfgb4_1 hzgb4_2 hfgb4_2 hzgb4_3 hfgb4_3 hzgb4_4 hfgb4_4 hzgb4_5 hfgb4_5 hzgb4_6 hfgb4_6 hzgb4_7 hfgb4_7); have hzgb4_0 := (blk_cell BKgb4.out 0).trans rfl; have hfgb4_0 := blk_frozen BKgb4.out 0; have hzgb4_1 := (blk_cell BKgb4.out 1).trans rfl; have hfgb4_1 := blk_frozen BKgb4.out 1; have hzgb4_2 := (blk_cell BKgb4.out 2).trans rfl; have hfgb4_2 := blk_frozen BKgb4.out 2; have hzgb4_3 := (blk_cell BKgb4.out 3).trans rfl; have hfgb4_3 := blk_frozen BKgb4.out 3; have hzgb4_4 := (blk_cell BKgb4.out 4).trans rfl; have hfgb4_4 := blk_frozen BKgb4.out 4; have hzgb4_5 := (blk_cell BKgb4.out 5).trans rfl; have hfgb4_5 := blk_frozen BKgb4.out 5; have hzgb4_6 := (blk_cell BKgb4.out 6).trans rfl; have hfgb4_6 := blk_frozen BKgb4.out 6; have hzgb4_7 := (blk_cell BKgb4.out 7).trans rfl; have hfgb4_7 := blk_frozen BKgb4.out 7; (try clear hzgb6_0 hfgb6_0 hzgb6_1 hfgb6_1 hzgb6_2 hfgb6_2 hzgb6_3 hfgb6_3 hzgb6_4 hfgb6_4 hzgb6_5 hfgb6_5 hzgb6_6 hfgb6_6 hzgb6_7 hfgb6_7); have hzgb6_0 := (blk_cell BKgb6.out 0).trans rfl; have hfgb6_0 := blk_frozen BKgb6.out 0; have hzgb6_1 := (blk_cell BKgb6.out 1).trans rfl; have hfgb6_1 := blk_frozen BKgb6.out 1; have hzgb6_2 := (blk_cell BKgb6.out 2).trans rfl; have hfgb6_2 := blk_frozen BKgb6.out 2; have hzgb6_3 := (blk_cell BKgb6.out 3).trans rfl; have hfgb6_3 := blk_frozen BKgb6.out 3; have hzgb6_4 := (blk_cell BKgb6.out 4).trans rfl; have hfgb6_4 := blk_frozen BKgb6.out 4; have hzgb6_5 := (blk_cell BKgb6.out 5).trans rfl; have hfgb6_5 := blk_frozen BKgb6.out 5; have hzgb6_6 := (blk_cell BKgb6.out 6).trans rfl; have hfgb6_6 := blk_frozen BKgb6.out 6; have hzgb6_7 := (blk_cell BKgb6.out 7).trans rfl; have hfgb6_7 := blk_frozen BKgb6.out 7
      go_wp2_with (first | ((with_reducible refine gate_store (t := 34) (p := 4) rfl ?_); refine store_event (t := 34) (p := 4) (v := ?vo_fin) (w1 := (World.setCell (World.setCell (World.setCell (World.setCell (World.setCell (World.setCell (World.setCell (World.setCell wr ⟨gb4, 0, none⟩ (.int .u8 y0)) ⟨gb4, 1, none⟩ (.int .u8 y1)) ⟨gb4, 2, none⟩ (.int .u8 y2)) ⟨gb4, 3, none⟩ (.int .u8 y3)) ⟨gb4, 4, none⟩ (.int .u8 y4)) ⟨gb4, 5, none⟩ (.int .u8 y5)) ⟨gb4, 6, none⟩ (.int .u8 y6)) ⟨gb4, 7, none⟩ (.int .u8 y7))) ?hg ?ho ?hn ?hr ?_; (case ho => rfl); (case hg => rfl); (case hn => rfl); (case hr => first | (go_simp; done) | (go_simp; rfl)); intro w10 hw; have hk : Kept wr w10 (fun k_ => k_ = gb4) := (by rw [hw]; exact (Kept.setCell (S := fun k_ => k_ = gb4) (Kept.setCell (S := fun k_ => k_ = gb4) (Kept.setCell (S := fun k_ => k_ = gb4) (Kept.setCell (S := fun k_ => k_ = gb4) (Kept.setCell (S := fun k_ => k_ = gb4) (Kept.setCell (S := fun k_ => k_ = gb4) (Kept.setCell (S := fun k_ => k_ = gb4) (Kept.setCell (S := fun k_ => k_ = gb4) (Kept.refl _ _) (p := ⟨gb4, 0, none⟩) (Or.inl rfl) _) (p := ⟨gb4, 1, none⟩) (Or.inl rfl) _) (p := ⟨gb4, 2, none⟩) (Or.inl rfl) _) (p := ⟨gb4, 3, none⟩) (Or.inl rfl) _) (p := ⟨gb4, 4, none⟩) (Or.inl rfl) _) (p := ⟨gb4, 5, none⟩) (Or.inl rfl) _) (p := ⟨gb4, 6, none⟩) (Or.inl rfl) _) (p := ⟨gb4, 7, none⟩) (Or.inl rfl) _)); have hc : w10.heap[gb4]? = some (.cells #[.int .u8 y0, .int .u8 y1, .int .u8 y2, .int .u8 y3, .int .u8 y4, .int .u8 y5, .int .u8 y6, .int .u8 y7] 34 (0, 0)) := (by rw [hw]; exact (blk_put (blk_put (blk_put (blk_put (blk_put (blk_put (blk_put (blk_put BKgb4.out 0 _ rfl) 1 _ rfl) 2 _ rfl) 3 _ rfl) 4 _ rfl) 5 _ rfl) 6 _ rfl) 7 _ rfl)); have hd : Below w.heap.size w w10 := (by rw [hw]; exact (below_set (below_set (below_set (below_set (below_set (below_set (below_set (below_set HB.out GEgb4.out) GEgb4.out) GEgb4.out) GEgb4.out) GEgb4.out) GEgb4.out) GEgb4.out) GEgb4.out)); have n_ := Aside0.mk (blk_kept BKgb6.out hk (fun hs_ => NE46.out (by first | exact hs_ | exact hs_.symm))); clear BKgb6; have BKgb6 := n_; clear n_; clear BKgb4; have BKgb4 := Aside0.mk hc; clear HB; have HB := Aside0.mk hd; clear hk hc hd hw; (try clear hzgb6_0 hfgb6_0 hzgb6_1 hfgb6_1 hzgb6_2 hfgb6_2 hzgb6_3 hfgb6_3 hzgb6_4 hfgb6_4 hzgb6_5 hfgb6_5 hzgb6_6 hfgb6_6 hzgb6_7 hfgb6_7); have hzgb6_0 := (blk_cell BKgb6.out 0).trans rfl; have hfgb6_0 := blk_frozen BKgb6.out 0; have hzgb6_1 := (blk_cell BKgb6.out 1).trans rfl; have hfgb6_1 := blk_frozen BKgb6.out 1; have hzgb6_2 := (blk_cell BKgb6.out 2).trans rfl; have hfgb6_2 := blk_frozen BKgb6.out 2; have hzgb6_3 := (blk_cell BKgb6.out 3).trans rfl; have hfgb6_3 := blk_frozen BKgb6.out 3; have hzgb6_4 := (blk_cell BKgb6.out 4).trans rfl; have hfgb6_4 := blk_frozen BKgb6.out 4; have hzgb6_5 := (blk_cell BKgb6.out 5).trans rfl; have hfgb6_5 := blk_frozen BKgb6.out 5; have hzgb6_6 := (blk_cell BKgb6.out 6).trans rfl; have hfgb6_6 := blk_frozen BKgb6.out 6; have hzgb6_7 := (blk_cell BKgb6.out 7).trans rfl; have hfgb6_7 := blk_frozen BKgb6.out 7; (try clear hzgb4_0 hfgb4_0 hzgb4_1 hfgb4_1 hzgb4_2 hfgb4_2 hzgb4_3 hfgb4_3 hzgb4_4 hfgb4_4 hzgb4_5 hfgb4_5 hzgb4_6 hfgb4_6 hzgb4_7 hfgb4_7); have hzgb4_0 := (blk_cell BKgb4.out 0).trans rfl; have hfgb4_0 := blk_frozen BKgb4.out 0; have hzgb4_1 := (blk_cell BKgb4.out 1).trans rfl; have hfgb4_1 := blk_frozen BKgb4.out 1; have hzgb4_2 := (blk_cell BKgb4.out 2).trans rfl; have hfgb4_2 := blk_frozen BKgb4.out 2; have hzgb4_3 := (blk_cell BKgb4.out 3).trans rfl; have hfgb4_3 := blk_frozen BKgb4.out 3; have hzgb4_4 := (blk_cell BKgb4.out 4).trans rfl; have hfgb4_4 := blk_frozen BKgb4.out 4; have hzgb4_5 := (blk_cell BKgb4.out 5).trans rfl; have hfgb4_5 := blk_frozen BKgb4.out 5; have hzgb4_6 := (blk_cell BKgb4.out 6).trans rfl; have hfgb4_6 := blk_frozen BKgb4.out 6; have hzgb4_7 := (blk_cell BKgb4.out 7).trans rfl; have hfgb4_7 := blk_frozen BKgb4.out 7))
      refine bodyPost_ret (results_cell_row rfl _ _ gb4 34 #[.int .u8 y0, .int .u8 y1, .int .u8 y2, .int .u8 y3, .int .u8 y4, .int .u8 y5, .int .u8 y6, .int .u8 y7] (0, 0) _ rfl BKgb4.out Try.underlying34 rfl (by kernel_rfl)) rfl ?_
      exact ⟨by rw [HQ.out, HEY.out]; rfl, HB.out⟩
def spec_l01Perm.f (n : Int) (l : List Int) : List Int := permL n l


-- NOT PRINTED: function 12 (spec_l11Outside)

end Go.Proofs.Ytmmoimofjomnlaa.MFnExactPlatComponents
