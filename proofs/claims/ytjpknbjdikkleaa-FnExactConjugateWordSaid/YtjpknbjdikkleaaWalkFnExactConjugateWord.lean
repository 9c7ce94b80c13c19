/- The law's function of FnExactConjugateWord, walked. -/
import Derived.Test.YtjpknbjdikkleaaPureFnExactConjugateWord
import Derived.Test.YtjpknbjdikkleaaLibWalk
import Derived.Test.YtjpknbjdikkleaaLib
import Derived.Test.YtjpknbjdikkleaaLibConj
import Derived.Test.YtjpknbjdikkleaaLibRows
set_option linter.unusedVariables false
set_option linter.unusedSimpArgs false
set_option maxRecDepth 10000
set_option maxHeartbeats 4000000
namespace Go.Proofs.Ytjpknbjdikkleaa.WalkFnExactConjugateWord
open Go.RowKit Go.Proofs.YtjpknbjdikkleaaW.PrintWords Go.Proofs.YtjpknbjdikkleaaW.PrintLast Go.Proofs.YtjpknbjdikkleaaW.PrintMore Go.Proofs.Ytjpknbjdikkleaa.LibWalk Go.Proofs.Ytjpknbjdikkleaa.Lib Go.Proofs.Ytjpknbjdikkleaa.MFnExactConjugateWord Go.Proofs.Ytjpknbjdikkleaa.PureFnExactConjugateWord


set_option maxHeartbeats 8000000 in
set_option maxRecDepth 100000 in
theorem early0 (n0 : Int) (A0 : Option Addr) (c0 : Nat) (l0 : List Int) (n1 : Int) (A1 : Option Addr) (c1 : Nat) (l1 : List Int) (g3 : Int) (Aj4 : laws_szBraid.f n0 l0 1048576 = some g3) (hz : g3 < 0) (w : World) (hr0 : Kd.C (Kd.int .i64) w A0 l0.length l0) (hc0 : l0.length ≤ c0) (hr1 : Kd.C (Kd.int .i64) w A1 l1.length l1) (hc1 : l1.length ≤ c1) :
    Calls Try.prog 3 #[.agg #[.int .i64 n0, .slice A0 l0.length c0], .agg #[.int .i64 n1, .slice A1 l1.length c1]] w fun e w' => e = .returned (.bool true) ∧ Below w.heap.size w w' := by
  have HR0 := Aside0.mk hr0
  have HC0 := Aside0.mk hc0
  clear hr0 hc0
  have HR1 := Aside0.mk hr1
  have HC1 := Aside0.mk hc1
  clear hr1 hc1
  have HB := Aside0.mk (Below.refl w.heap.size w)
  have zz : decide (g3 < 0) = true := decide_eq_true hz
  go_enter Try.func3, Try.ntmps3
  go_wp2_with (first | ((with_reducible refine gate_dst (N := 2) rfl ?_); refine box_event ?hg (N := 2) ?hd (cs := #[.int .i64 n0, .slice A0 l0.length c0]) (t := 24) ?hr ?_; (case hd => rfl); (case hg => rfl); (case hr => first | (go_simp; done) | (go_simp; rfl)); intro gb2 hg w1 hbox hb; have hs := below_step ((by repeat (first | (with_reducible first | exact Below.refl _ _ | apply below_alloc | apply pw_below_drewN | apply below_drew1) | exact Below.refl _ _)) : Below w.heap.size w _) hb; have Lw1 := Aside0.mk (below_size hs); have GEgb2 : Aside0 (w.heap.size ≤ gb2) := ⟨by rw [hg]; exact below_size ((by repeat (first | (with_reducible first | exact Below.refl _ _ | apply below_alloc | apply pw_below_drewN | apply below_drew1) | exact Below.refl _ _)) : Below w.heap.size w _)⟩; have GLgb2 : Aside0 (gb2 < w1.heap.size) := ⟨blk_lt hbox⟩; have n_ := Aside0.mk (below_step HB.out hs); clear HB; have HB := n_; clear n_; have BKgb2 := Aside0.mk hbox; clear hbox hb hs hg; (try clear hczgb2_0 hczgb2_1 hfzgb2_0 hfzgb2_1); have hczgb2_0 : w1.cell? ⟨gb2, 0, none⟩ = some (.int .i64 n0) := (blk_cell BKgb2.out 0).trans rfl; have hczgb2_1 : w1.cell? ⟨gb2, 1, none⟩ = some (.slice A0 l0.length c0) := (blk_cell BKgb2.out 1).trans rfl; have hfzgb2_0 := blk_frozen BKgb2.out 0; have hfzgb2_1 := blk_frozen BKgb2.out 1) | ((with_reducible refine gate_dst (N := 3) rfl ?_); refine box_event ?hg (N := 3) ?hd (cs := #[.int .i64 n1, .slice A1 l1.length c1]) (t := 24) ?hr ?_; (case hd => rfl); (case hg => rfl); (case hr => first | (go_simp; done) | (go_simp; rfl)); intro gb3 hg w2 hbox hb; have hs := below_step ((by repeat (first | (with_reducible first | exact Below.refl _ _ | apply below_alloc | apply pw_below_drewN | apply below_drew1) | exact Below.refl _ _)) : Below w1.heap.size w1 _) hb; have Lw2 := Aside0.mk (below_size hs); have GEgb3 : Aside0 (w1.heap.size ≤ gb3) := ⟨by rw [hg]; exact below_size ((by repeat (first | (with_reducible first | exact Below.refl _ _ | apply below_alloc | apply pw_below_drewN | apply below_drew1) | exact Below.refl _ _)) : Below w1.heap.size w1 _)⟩; have GLgb3 : Aside0 (gb3 < w2.heap.size) := ⟨blk_lt hbox⟩; have n_ := Aside0.mk (blk_below BKgb2.out hs); clear BKgb2; have BKgb2 := n_; clear n_; have n_ := Aside0.mk (below_step HB.out hs); clear HB; have HB := n_; clear n_; have BKgb3 := Aside0.mk hbox; clear hbox hb hs hg; (try clear hczgb2_0 hczgb2_1 hfzgb2_0 hfzgb2_1); have hczgb2_0 : w2.cell? ⟨gb2, 0, none⟩ = some (.int .i64 n0) := (blk_cell BKgb2.out 0).trans rfl; have hczgb2_1 : w2.cell? ⟨gb2, 1, none⟩ = some (.slice A0 l0.length c0) := (blk_cell BKgb2.out 1).trans rfl; have hfzgb2_0 := blk_frozen BKgb2.out 0; have hfzgb2_1 := blk_frozen BKgb2.out 1; (try clear hczgb3_0 hczgb3_1 hfzgb3_0 hfzgb3_1); have hczgb3_0 : w2.cell? ⟨gb3, 0, none⟩ = some (.int .i64 n1) := (blk_cell BKgb3.out 0).trans rfl; have hczgb3_1 : w2.cell? ⟨gb3, 1, none⟩ = some (.slice A1 l1.length c1) := (blk_cell BKgb3.out 1).trans rfl; have hfzgb3_0 := blk_frozen BKgb3.out 0; have hfzgb3_1 := blk_frozen BKgb3.out 1) | ((with_reducible refine gate_callee (f := 15) rfl ?_); refine goesL_ (some 19) rfl rfl Try.func15 (by kernel_rfl) rfl #[.agg #[.int .i64 n0, .slice A0 l0.length c0], .int .i64 1048576] rfl (by (try simp only [List.map_toArray, List.map_cons, List.map_nil]); first | done | rfl | (simp only [List.length_drop, List.length_take]; rfl) | (simp only [iotaSS_length, iota_length]; done) | (simp only [iotaSS_length, iota_length]; rfl)) ?_; (with_reducible refine (laws_szBraid.calls n0 _ _ l0 1048576 g3 _ ?side1 ?side2 Aj4).mono ?_); (case side1 => first | exact HR0.out | exact Kd.C_below HR0.out (below_step HB.out ((by repeat (first | (with_reducible first | exact Below.refl _ _ | apply below_alloc | apply pw_below_drewN | apply below_drew1) | exact Below.refl _ _)) : Below w2.heap.size w2 _))); (case side2 => exact HC0.out); rintro e w5 ⟨rfl, hb⟩; refine ⟨_, rfl, ?_⟩; have hs := below_step ((by repeat (first | (with_reducible first | exact Below.refl _ _ | apply below_alloc | apply pw_below_drewN | apply below_drew1) | exact Below.refl _ _)) : Below w2.heap.size w2 _) hb; have Lw5 := Aside0.mk (below_size hs); have n_ := Aside0.mk (blk_below BKgb2.out hs); clear BKgb2; have BKgb2 := n_; clear n_; have n_ := Aside0.mk (blk_below BKgb3.out hs); clear BKgb3; have BKgb3 := n_; clear n_; have n_ := Aside0.mk (below_step HB.out hs); clear HB; have HB := n_; clear n_; clear hs hb; (try clear hczgb2_0 hczgb2_1 hfzgb2_0 hfzgb2_1); have hczgb2_0 : w5.cell? ⟨gb2, 0, none⟩ = some (.int .i64 n0) := (blk_cell BKgb2.out 0).trans rfl; have hczgb2_1 : w5.cell? ⟨gb2, 1, none⟩ = some (.slice A0 l0.length c0) := (blk_cell BKgb2.out 1).trans rfl; have hfzgb2_0 := blk_frozen BKgb2.out 0; have hfzgb2_1 := blk_frozen BKgb2.out 1; (try clear hczgb3_0 hczgb3_1 hfzgb3_0 hfzgb3_1); have hczgb3_0 : w5.cell? ⟨gb3, 0, none⟩ = some (.int .i64 n1) := (blk_cell BKgb3.out 0).trans rfl; have hczgb3_1 : w5.cell? ⟨gb3, 1, none⟩ = some (.slice A1 l1.length c1) := (blk_cell BKgb3.out 1).trans rfl; have hfzgb3_0 := blk_frozen BKgb3.out 0; have hfzgb3_1 := blk_frozen BKgb3.out 1))
  go_ret
  exact ⟨rfl, (by repeat (first | (with_reducible first | exact HB.out | apply below_alloc | apply pw_below_drewN | apply below_drew1) | exact HB.out))⟩
set_option maxHeartbeats 8000000 in
set_option maxRecDepth 100000 in
theorem early1 (n0 : Int) (A0 : Option Addr) (c0 : Nat) (l0 : List Int) (n1 : Int) (A1 : Option Addr) (c1 : Nat) (l1 : List Int) (g3 : Int) (Aj4 : laws_szBraid.f n0 l0 1048576 = some g3) (g6 : Int) (Aj7 : laws_szBraid.f n1 l1 g3 = some g6) (hz0 : ¬ g3 < 0) (hz : g6 < 0) (w : World) (hr0 : Kd.C (Kd.int .i64) w A0 l0.length l0) (hc0 : l0.length ≤ c0) (hr1 : Kd.C (Kd.int .i64) w A1 l1.length l1) (hc1 : l1.length ≤ c1) :
    Calls Try.prog 3 #[.agg #[.int .i64 n0, .slice A0 l0.length c0], .agg #[.int .i64 n1, .slice A1 l1.length c1]] w fun e w' => e = .returned (.bool true) ∧ Below w.heap.size w w' := by
  have HR0 := Aside0.mk hr0
  have HC0 := Aside0.mk hc0
  clear hr0 hc0
  have HR1 := Aside0.mk hr1
  have HC1 := Aside0.mk hc1
  clear hr1 hc1
  have HB := Aside0.mk (Below.refl w.heap.size w)
  have z0 : decide (g3 < 0) = false := decide_eq_false (by omega)
  have zz : decide (g6 < 0) = true := decide_eq_true hz
  go_enter Try.func3, Try.ntmps3
  go_wp2_with (first | ((with_reducible refine gate_dst (N := 2) rfl ?_); refine box_event ?hg (N := 2) ?hd (cs := #[.int .i64 n0, .slice A0 l0.length c0]) (t := 24) ?hr ?_; (case hd => rfl); (case hg => rfl); (case hr => first | (go_simp; done) | (go_simp; rfl)); intro gb2 hg w1 hbox hb; have hs := below_step ((by repeat (first | (with_reducible first | exact Below.refl _ _ | apply below_alloc | apply pw_below_drewN | apply below_drew1) | exact Below.refl _ _)) : Below w.heap.size w _) hb; have Lw1 := Aside0.mk (below_size hs); have GEgb2 : Aside0 (w.heap.size ≤ gb2) := ⟨by rw [hg]; exact below_size ((by repeat (first | (with_reducible first | exact Below.refl _ _ | apply below_alloc | apply pw_below_drewN | apply below_drew1) | exact Below.refl _ _)) : Below w.heap.size w _)⟩; have GLgb2 : Aside0 (gb2 < w1.heap.size) := ⟨blk_lt hbox⟩; have n_ := Aside0.mk (below_step HB.out hs); clear HB; have HB := n_; clear n_; have BKgb2 := Aside0.mk hbox; clear hbox hb hs hg; (try clear hczgb2_0 hczgb2_1 hfzgb2_0 hfzgb2_1); have hczgb2_0 : w1.cell? ⟨gb2, 0, none⟩ = some (.int .i64 n0) := (blk_cell BKgb2.out 0).trans rfl; have hczgb2_1 : w1.cell? ⟨gb2, 1, none⟩ = some (.slice A0 l0.length c0) := (blk_cell BKgb2.out 1).trans rfl; have hfzgb2_0 := blk_frozen BKgb2.out 0; have hfzgb2_1 := blk_frozen BKgb2.out 1) | ((with_reducible refine gate_dst (N := 3) rfl ?_); refine box_event ?hg (N := 3) ?hd (cs := #[.int .i64 n1, .slice A1 l1.length c1]) (t := 24) ?hr ?_; (case hd => rfl); (case hg => rfl); (case hr => first | (go_simp; done) | (go_simp; rfl)); intro gb3 hg w2 hbox hb; have hs := below_step ((by repeat (first | (with_reducible first | exact Below.refl _ _ | apply below_alloc | apply pw_below_drewN | apply below_drew1) | exact Below.refl _ _)) : Below w1.heap.size w1 _) hb; have Lw2 := Aside0.mk (below_size hs); have GEgb3 : Aside0 (w1.heap.size ≤ gb3) := ⟨by rw [hg]; exact below_size ((by repeat (first | (with_reducible first | exact Below.refl _ _ | apply below_alloc | apply pw_below_drewN | apply below_drew1) | exact Below.refl _ _)) : Below w1.heap.size w1 _)⟩; have GLgb3 : Aside0 (gb3 < w2.heap.size) := ⟨blk_lt hbox⟩; have n_ := Aside0.mk (blk_below BKgb2.out hs); clear BKgb2; have BKgb2 := n_; clear n_; have n_ := Aside0.mk (below_step HB.out hs); clear HB; have HB := n_; clear n_; have BKgb3 := Aside0.mk hbox; clear hbox hb hs hg; (try clear hczgb2_0 hczgb2_1 hfzgb2_0 hfzgb2_1); have hczgb2_0 : w2.cell? ⟨gb2, 0, none⟩ = some (.int .i64 n0) := (blk_cell BKgb2.out 0).trans rfl; have hczgb2_1 : w2.cell? ⟨gb2, 1, none⟩ = some (.slice A0 l0.length c0) := (blk_cell BKgb2.out 1).trans rfl; have hfzgb2_0 := blk_frozen BKgb2.out 0; have hfzgb2_1 := blk_frozen BKgb2.out 1; (try clear hczgb3_0 hczgb3_1 hfzgb3_0 hfzgb3_1); have hczgb3_0 : w2.cell? ⟨gb3, 0, none⟩ = some (.int .i64 n1) := (blk_cell BKgb3.out 0).trans rfl; have hczgb3_1 : w2.cell? ⟨gb3, 1, none⟩ = some (.slice A1 l1.length c1) := (blk_cell BKgb3.out 1).trans rfl; have hfzgb3_0 := blk_frozen BKgb3.out 0; have hfzgb3_1 := blk_frozen BKgb3.out 1) | ((with_reducible refine gate_callee (f := 15) rfl ?_); refine goesL_ (some 19) rfl rfl Try.func15 (by kernel_rfl) rfl #[.agg #[.int .i64 n0, .slice A0 l0.length c0], .int .i64 1048576] rfl (by (try simp only [List.map_toArray, List.map_cons, List.map_nil]); first | done | rfl | (simp only [List.length_drop, List.length_take]; rfl) | (simp only [iotaSS_length, iota_length]; done) | (simp only [iotaSS_length, iota_length]; rfl)) ?_; (with_reducible refine (laws_szBraid.calls n0 _ _ l0 1048576 g3 _ ?side1 ?side2 Aj4).mono ?_); (case side1 => first | exact HR0.out | exact Kd.C_below HR0.out (below_step HB.out ((by repeat (first | (with_reducible first | exact Below.refl _ _ | apply below_alloc | apply pw_below_drewN | apply below_drew1) | exact Below.refl _ _)) : Below w2.heap.size w2 _))); (case side2 => exact HC0.out); rintro e w5 ⟨rfl, hb⟩; refine ⟨_, rfl, ?_⟩; have hs := below_step ((by repeat (first | (with_reducible first | exact Below.refl _ _ | apply below_alloc | apply pw_below_drewN | apply below_drew1) | exact Below.refl _ _)) : Below w2.heap.size w2 _) hb; have Lw5 := Aside0.mk (below_size hs); have n_ := Aside0.mk (blk_below BKgb2.out hs); clear BKgb2; have BKgb2 := n_; clear n_; have n_ := Aside0.mk (blk_below BKgb3.out hs); clear BKgb3; have BKgb3 := n_; clear n_; have n_ := Aside0.mk (below_step HB.out hs); clear HB; have HB := n_; clear n_; clear hs hb; (try clear hczgb2_0 hczgb2_1 hfzgb2_0 hfzgb2_1); have hczgb2_0 : w5.cell? ⟨gb2, 0, none⟩ = some (.int .i64 n0) := (blk_cell BKgb2.out 0).trans rfl; have hczgb2_1 : w5.cell? ⟨gb2, 1, none⟩ = some (.slice A0 l0.length c0) := (blk_cell BKgb2.out 1).trans rfl; have hfzgb2_0 := blk_frozen BKgb2.out 0; have hfzgb2_1 := blk_frozen BKgb2.out 1; (try clear hczgb3_0 hczgb3_1 hfzgb3_0 hfzgb3_1); have hczgb3_0 : w5.cell? ⟨gb3, 0, none⟩ = some (.int .i64 n1) := (blk_cell BKgb3.out 0).trans rfl; have hczgb3_1 : w5.cell? ⟨gb3, 1, none⟩ = some (.slice A1 l1.length c1) := (blk_cell BKgb3.out 1).trans rfl; have hfzgb3_0 := blk_frozen BKgb3.out 0; have hfzgb3_1 := blk_frozen BKgb3.out 1) | ((with_reducible refine gate_callee (f := 15) rfl ?_); refine goesL_ (some 24) rfl rfl Try.func15 (by kernel_rfl) rfl #[.agg #[.int .i64 n1, .slice A1 l1.length c1], .int .i64 g3] rfl (by (try simp only [List.map_toArray, List.map_cons, List.map_nil]); first | done | rfl | (simp only [List.length_drop, List.length_take]; rfl) | (simp only [iotaSS_length, iota_length]; done) | (simp only [iotaSS_length, iota_length]; rfl)) ?_; (with_reducible refine (laws_szBraid.calls n1 _ _ l1 g3 g6 _ ?side1 ?side2 Aj7).mono ?_); (case side1 => first | exact HR1.out | exact Kd.C_below HR1.out (below_step HB.out ((by repeat (first | (with_reducible first | exact Below.refl _ _ | apply below_alloc | apply pw_below_drewN | apply below_drew1) | exact Below.refl _ _)) : Below w5.heap.size w5 _))); (case side2 => exact HC1.out); rintro e w8 ⟨rfl, hb⟩; refine ⟨_, rfl, ?_⟩; have hs := below_step ((by repeat (first | (with_reducible first | exact Below.refl _ _ | apply below_alloc | apply pw_below_drewN | apply below_drew1) | exact Below.refl _ _)) : Below w5.heap.size w5 _) hb; have Lw8 := Aside0.mk (below_size hs); have n_ := Aside0.mk (blk_below BKgb2.out hs); clear BKgb2; have BKgb2 := n_; clear n_; have n_ := Aside0.mk (blk_below BKgb3.out hs); clear BKgb3; have BKgb3 := n_; clear n_; have n_ := Aside0.mk (below_step HB.out hs); clear HB; have HB := n_; clear n_; clear hs hb; (try clear hczgb2_0 hczgb2_1 hfzgb2_0 hfzgb2_1); have hczgb2_0 : w8.cell? ⟨gb2, 0, none⟩ = some (.int .i64 n0) := (blk_cell BKgb2.out 0).trans rfl; have hczgb2_1 : w8.cell? ⟨gb2, 1, none⟩ = some (.slice A0 l0.length c0) := (blk_cell BKgb2.out 1).trans rfl; have hfzgb2_0 := blk_frozen BKgb2.out 0; have hfzgb2_1 := blk_frozen BKgb2.out 1; (try clear hczgb3_0 hczgb3_1 hfzgb3_0 hfzgb3_1); have hczgb3_0 : w8.cell? ⟨gb3, 0, none⟩ = some (.int .i64 n1) := (blk_cell BKgb3.out 0).trans rfl; have hczgb3_1 : w8.cell? ⟨gb3, 1, none⟩ = some (.slice A1 l1.length c1) := (blk_cell BKgb3.out 1).trans rfl; have hfzgb3_0 := blk_frozen BKgb3.out 0; have hfzgb3_1 := blk_frozen BKgb3.out 1))
  go_ret
  exact ⟨rfl, (by repeat (first | (with_reducible first | exact HB.out | apply below_alloc | apply pw_below_drewN | apply below_drew1) | exact HB.out))⟩
set_option maxHeartbeats 8000000 in
set_option maxRecDepth 100000 in
theorem whole (n0 : Int) (A0 : Option Addr) (c0 : Nat) (l0 : List Int) (n1 : Int) (A1 : Option Addr) (c1 : Nat) (l1 : List Int) (g3 : Int) (Aj4 : laws_szBraid.f n0 l0 1048576 = some g3) (g6 : Int) (Aj7 : laws_szBraid.f n1 l1 g3 = some g6) (Kj10 : Nat) (Aj10 : laws_toBraid.f Kj10 n0 l0 = some (n0, l0)) (Kj11 : Nat) (Aj11 : laws_toBraid.f Kj11 n1 l1 = some (n1, l1)) (g12 : Int) (g13 : List Int) (g14 : Int) (Kj15 : Nat) (Aj15 : spec_ConjugateWord.f Kj15 n0 l0 n1 l1 = some (g12, g13, g14)) (Kj92 : Nat) (Aj92 : impl_ConjugateWord.f Kj92 n0 l0 n1 l1 = some (g12, g13, g14)) (Kj100 : Nat) (Aj100 : laws_eqBraid.f Kj100 g12 g13 g12 g13 = some true) (Kj107 : Nat) (Aj107 : laws_eqBraid.f Kj107 n0 l0 n0 l0 = some true) (Kj114 : Nat) (Aj114 : laws_eqBraid.f Kj114 n1 l1 n1 l1 = some true) (x117 : Int) (ex117 : x117 = 1 + (l0.length : Nat)) (Kx117 : Nat) (Ax117 : laws_markBraid.f Kx117 n0 l0 1 = some (x117, (iota 1 l0.length))) (x119 : Int) (ex119 : x119 = x117 + (l1.length : Nat)) (Kx119 : Nat) (Ax119 : laws_markBraid.f Kx119 n1 l1 x117 = some (x119, (iota x117 l1.length))) (x122 : Int) (ex122 : x122 = 1 + (g13.length : Nat)) (Kx122 : Nat) (Ax122 : laws_markBraid.f Kx122 g12 g13 1 = some (x122, (iota 1 g13.length))) (Kj123 : Nat) (Aj123 : laws_heldBraid.f Kj123 g12 ((iota 1 g13.length)) 1 = some x122) (hz0 : ¬ (g3 < 0)) (hz1 : ¬ (g6 < 0)) (hz3 : ¬ (x119 < 0)) (hz5 : ¬ (x122 < 0)) (hz8 : ¬ (x122 < 0)) (w : World) (hr0 : Kd.C (Kd.int .i64) w A0 l0.length l0) (hc0 : l0.length ≤ c0) (hr1 : Kd.C (Kd.int .i64) w A1 l1.length l1) (hc1 : l1.length ≤ c1) :
    Calls Try.prog 3 #[.agg #[.int .i64 n0, .slice A0 l0.length c0], .agg #[.int .i64 n1, .slice A1 l1.length c1]] w fun e w' => e = .returned (.bool true) ∧ Below w.heap.size w w' := by
  have HR0 := Aside0.mk hr0
  have HC0 := Aside0.mk hc0
  clear hr0 hc0
  have HR1 := Aside0.mk hr1
  have HC1 := Aside0.mk hc1
  clear hr1 hc1
  have HB := Aside0.mk (Below.refl w.heap.size w)
  have z0 : decide (g3 < 0) = false := decide_eq_false (by omega)
  have z1 : decide (g6 < 0) = false := decide_eq_false (by omega)
  have z2 : (g14 != g14) = false := bne_self_eq_false _
  have z3 : decide (x119 < 0) = false := decide_eq_false (by omega)
  have z5 : decide (x122 < 0) = false := decide_eq_false (by omega)
  have z6 : (x122 != x122) = false := bne_self_eq_false _
  have Ex117 := Aside0.mk ex117
  clear ex117
  have Ex119 := Aside0.mk ex119
  clear ex119
  have Ex122 := Aside0.mk ex122
  clear ex122
  go_enter Try.func3, Try.ntmps3
  go_wp2_with (first | ((with_reducible refine gate_dst (N := 2) rfl ?_); refine box_event ?hg (N := 2) ?hd (cs := #[.int .i64 n0, .slice A0 l0.length c0]) (t := 24) ?hr ?_; (case hd => rfl); (case hg => rfl); (case hr => first | (go_simp; done) | (go_simp; rfl)); intro gb2 hg w1 hbox hb; have hs := below_step ((by repeat (first | (with_reducible first | exact Below.refl _ _ | apply below_alloc | apply pw_below_drewN | apply below_drew1) | exact Below.refl _ _)) : Below w.heap.size w _) hb; have Lw1 := Aside0.mk (below_size hs); have GEgb2 : Aside0 (w.heap.size ≤ gb2) := ⟨by rw [hg]; exact below_size ((by repeat (first | (with_reducible first | exact Below.refl _ _ | apply below_alloc | apply pw_below_drewN | apply below_drew1) | exact Below.refl _ _)) : Below w.heap.size w _)⟩; have GLgb2 : Aside0 (gb2 < w1.heap.size) := ⟨blk_lt hbox⟩; have n_ := Aside0.mk (below_step HB.out hs); clear HB; have HB := n_; clear n_; have BKgb2 := Aside0.mk hbox; clear hbox hb hs hg; (try clear hczgb2_0 hczgb2_1 hfzgb2_0 hfzgb2_1); have hczgb2_0 : w1.cell? ⟨gb2, 0, none⟩ = some (.int .i64 n0) := (blk_cell BKgb2.out 0).trans rfl; have hczgb2_1 : w1.cell? ⟨gb2, 1, none⟩ = some (.slice A0 l0.length c0) := (blk_cell BKgb2.out 1).trans rfl; have hfzgb2_0 := blk_frozen BKgb2.out 0; have hfzgb2_1 := blk_frozen BKgb2.out 1) | ((with_reducible refine gate_dst (N := 3) rfl ?_); refine box_event ?hg (N := 3) ?hd (cs := #[.int .i64 n1, .slice A1 l1.length c1]) (t := 24) ?hr ?_; (case hd => rfl); (case hg => rfl); (case hr => first | (go_simp; done) | (go_simp; rfl)); intro gb3 hg w2 hbox hb; have hs := below_step ((by repeat (first | (with_reducible first | exact Below.refl _ _ | apply below_alloc | apply pw_below_drewN | apply below_drew1) | exact Below.refl _ _)) : Below w1.heap.size w1 _) hb; have Lw2 := Aside0.mk (below_size hs); have GEgb3 : Aside0 (w1.heap.size ≤ gb3) := ⟨by rw [hg]; exact below_size ((by repeat (first | (with_reducible first | exact Below.refl _ _ | apply below_alloc | apply pw_below_drewN | apply below_drew1) | exact Below.refl _ _)) : Below w1.heap.size w1 _)⟩; have GLgb3 : Aside0 (gb3 < w2.heap.size) := ⟨blk_lt hbox⟩; have n_ := Aside0.mk (blk_below BKgb2.out hs); clear BKgb2; have BKgb2 := n_; clear n_; have n_ := Aside0.mk (below_step HB.out hs); clear HB; have HB := n_; clear n_; have BKgb3 := Aside0.mk hbox; clear hbox hb hs hg; (try clear hczgb2_0 hczgb2_1 hfzgb2_0 hfzgb2_1); have hczgb2_0 : w2.cell? ⟨gb2, 0, none⟩ = some (.int .i64 n0) := (blk_cell BKgb2.out 0).trans rfl; have hczgb2_1 : w2.cell? ⟨gb2, 1, none⟩ = some (.slice A0 l0.length c0) := (blk_cell BKgb2.out 1).trans rfl; have hfzgb2_0 := blk_frozen BKgb2.out 0; have hfzgb2_1 := blk_frozen BKgb2.out 1; (try clear hczgb3_0 hczgb3_1 hfzgb3_0 hfzgb3_1); have hczgb3_0 : w2.cell? ⟨gb3, 0, none⟩ = some (.int .i64 n1) := (blk_cell BKgb3.out 0).trans rfl; have hczgb3_1 : w2.cell? ⟨gb3, 1, none⟩ = some (.slice A1 l1.length c1) := (blk_cell BKgb3.out 1).trans rfl; have hfzgb3_0 := blk_frozen BKgb3.out 0; have hfzgb3_1 := blk_frozen BKgb3.out 1) | ((with_reducible refine gate_callee (f := 15) rfl ?_); refine goesL_ (some 19) rfl rfl Try.func15 (by kernel_rfl) rfl #[.agg #[.int .i64 n0, .slice A0 l0.length c0], .int .i64 1048576] rfl (by (try simp only [List.map_toArray, List.map_cons, List.map_nil]); first | done | rfl | (simp only [List.length_drop, List.length_take]; rfl) | (simp only [iotaSS_length, iota_length]; done) | (simp only [iotaSS_length, iota_length]; rfl)) ?_; (with_reducible refine (laws_szBraid.calls n0 _ _ l0 1048576 g3 _ ?side1 ?side2 Aj4).mono ?_); (case side1 => first | exact HR0.out | exact Kd.C_below HR0.out (below_step HB.out ((by repeat (first | (with_reducible first | exact Below.refl _ _ | apply below_alloc | apply pw_below_drewN | apply below_drew1) | exact Below.refl _ _)) : Below w2.heap.size w2 _))); (case side2 => exact HC0.out); rintro e w5 ⟨rfl, hb⟩; refine ⟨_, rfl, ?_⟩; have hs := below_step ((by repeat (first | (with_reducible first | exact Below.refl _ _ | apply below_alloc | apply pw_below_drewN | apply below_drew1) | exact Below.refl _ _)) : Below w2.heap.size w2 _) hb; have Lw5 := Aside0.mk (below_size hs); have n_ := Aside0.mk (blk_below BKgb2.out hs); clear BKgb2; have BKgb2 := n_; clear n_; have n_ := Aside0.mk (blk_below BKgb3.out hs); clear BKgb3; have BKgb3 := n_; clear n_; have n_ := Aside0.mk (below_step HB.out hs); clear HB; have HB := n_; clear n_; clear hs hb; (try clear hczgb2_0 hczgb2_1 hfzgb2_0 hfzgb2_1); have hczgb2_0 : w5.cell? ⟨gb2, 0, none⟩ = some (.int .i64 n0) := (blk_cell BKgb2.out 0).trans rfl; have hczgb2_1 : w5.cell? ⟨gb2, 1, none⟩ = some (.slice A0 l0.length c0) := (blk_cell BKgb2.out 1).trans rfl; have hfzgb2_0 := blk_frozen BKgb2.out 0; have hfzgb2_1 := blk_frozen BKgb2.out 1; (try clear hczgb3_0 hczgb3_1 hfzgb3_0 hfzgb3_1); have hczgb3_0 : w5.cell? ⟨gb3, 0, none⟩ = some (.int .i64 n1) := (blk_cell BKgb3.out 0).trans rfl; have hczgb3_1 : w5.cell? ⟨gb3, 1, none⟩ = some (.slice A1 l1.length c1) := (blk_cell BKgb3.out 1).trans rfl; have hfzgb3_0 := blk_frozen BKgb3.out 0; have hfzgb3_1 := blk_frozen BKgb3.out 1) | ((with_reducible refine gate_callee (f := 15) rfl ?_); refine goesL_ (some 24) rfl rfl Try.func15 (by kernel_rfl) rfl #[.agg #[.int .i64 n1, .slice A1 l1.length c1], .int .i64 g3] rfl (by (try simp only [List.map_toArray, List.map_cons, List.map_nil]); first | done | rfl | (simp only [List.length_drop, List.length_take]; rfl) | (simp only [iotaSS_length, iota_length]; done) | (simp only [iotaSS_length, iota_length]; rfl)) ?_; (with_reducible refine (laws_szBraid.calls n1 _ _ l1 g3 g6 _ ?side1 ?side2 Aj7).mono ?_); (case side1 => first | exact HR1.out | exact Kd.C_below HR1.out (below_step HB.out ((by repeat (first | (with_reducible first | exact Below.refl _ _ | apply below_alloc | apply pw_below_drewN | apply below_drew1) | exact Below.refl _ _)) : Below w5.heap.size w5 _))); (case side2 => exact HC1.out); rintro e w8 ⟨rfl, hb⟩; refine ⟨_, rfl, ?_⟩; have hs := below_step ((by repeat (first | (with_reducible first | exact Below.refl _ _ | apply below_alloc | apply pw_below_drewN | apply below_drew1) | exact Below.refl _ _)) : Below w5.heap.size w5 _) hb; have Lw8 := Aside0.mk (below_size hs); have n_ := Aside0.mk (blk_below BKgb2.out hs); clear BKgb2; have BKgb2 := n_; clear n_; have n_ := Aside0.mk (blk_below BKgb3.out hs); clear BKgb3; have BKgb3 := n_; clear n_; have n_ := Aside0.mk (below_step HB.out hs); clear HB; have HB := n_; clear n_; clear hs hb; (try clear hczgb2_0 hczgb2_1 hfzgb2_0 hfzgb2_1); have hczgb2_0 : w8.cell? ⟨gb2, 0, none⟩ = some (.int .i64 n0) := (blk_cell BKgb2.out 0).trans rfl; have hczgb2_1 : w8.cell? ⟨gb2, 1, none⟩ = some (.slice A0 l0.length c0) := (blk_cell BKgb2.out 1).trans rfl; have hfzgb2_0 := blk_frozen BKgb2.out 0; have hfzgb2_1 := blk_frozen BKgb2.out 1; (try clear hczgb3_0 hczgb3_1 hfzgb3_0 hfzgb3_1); have hczgb3_0 : w8.cell? ⟨gb3, 0, none⟩ = some (.int .i64 n1) := (blk_cell BKgb3.out 0).trans rfl; have hczgb3_1 : w8.cell? ⟨gb3, 1, none⟩ = some (.slice A1 l1.length c1) := (blk_cell BKgb3.out 1).trans rfl; have hfzgb3_0 := blk_frozen BKgb3.out 0; have hfzgb3_1 := blk_frozen BKgb3.out 1))
  obtain ⟨F_, hF0, hmv, hun⟩ : ∃ F_ : World → Prop, F_ w8 ∧ (∀ W_ W2_, F_ W_ → Below W_.heap.size W_ W2_ → F_ W2_) ∧ (∀ W_, F_ W_ → (Below w.heap.size w W_) ∧ (W_.heap[gb2]? = some (.cells #[.int .i64 n0, .slice A0 l0.length c0] 24 (0, 0))) ∧ (W_.heap[gb3]? = some (.cells #[.int .i64 n1, .slice A1 l1.length c1] 24 (0, 0)))) := ⟨fun W_ => (Below w.heap.size w W_) ∧ (W_.heap[gb2]? = some (.cells #[.int .i64 n0, .slice A0 l0.length c0] 24 (0, 0))) ∧ (W_.heap[gb3]? = some (.cells #[.int .i64 n1, .slice A1 l1.length c1] 24 (0, 0))), ⟨HB.out, BKgb2.out, BKgb3.out⟩, fun W_ W2_ h hb_ => ⟨below_step h.1 hb_, blk_below h.2.1 hb_, blk_below h.2.2 hb_⟩, fun _ h => h⟩
  have HF := Aside0.mk hF0
  have HMV := Aside0.mk hmv
  have HUN := Aside0.mk hun
  clear hF0 hmv hun
  clear HB BKgb2 BKgb3
  (try clear hczgb2_0 hfzgb2_0 hczgb2_1 hfzgb2_1 hczgb3_0 hfzgb3_0 hczgb3_1 hfzgb3_1)
  refine start_ (n := 11) (S := fun w' => w'.cell? ⟨gb2, 0, none⟩ = some (.int .i64 n0) ∧ w'.cell? ⟨gb2, 1, none⟩ = some (.slice A0 l0.length c0) ∧ w'.cell? ⟨gb3, 0, none⟩ = some (.int .i64 n1) ∧ w'.cell? ⟨gb3, 1, none⟩ = some (.slice A1 l1.length c1)) (ds := []) #[false, false, false, false, false, false, false, false, false, false, false] (by kernel_rfl) rfl rfl ⟨(blk_cell ((HUN.out _ ((HMV.out w8 _ HF.out (by repeat (first | (with_reducible first | exact Below.refl _ _ | apply below_alloc | apply pw_below_drewN | apply below_drew1) | exact Below.refl _ _))))).2.1) 0).trans rfl, (blk_cell ((HUN.out _ ((HMV.out w8 _ HF.out (by repeat (first | (with_reducible first | exact Below.refl _ _ | apply below_alloc | apply pw_below_drewN | apply below_drew1) | exact Below.refl _ _))))).2.1) 1).trans rfl, (blk_cell ((HUN.out _ ((HMV.out w8 _ HF.out (by repeat (first | (with_reducible first | exact Below.refl _ _ | apply below_alloc | apply pw_below_drewN | apply below_drew1) | exact Below.refl _ _))))).2.2) 0).trans rfl, (blk_cell ((HUN.out _ ((HMV.out w8 _ HF.out (by repeat (first | (with_reducible first | exact Below.refl _ _ | apply below_alloc | apply pw_below_drewN | apply below_drew1) | exact Below.refl _ _))))).2.2) 1).trans rfl⟩ (fun hHeld => ?_)
  refine take_ (i := 0) (N := some 28) (v := ?_) (a' := ?_) #[true, false, false, false, false, false, false, false, false, false, false] rfl rfl (by kernel_rfl) (fun _ _ _ h => h) (Or.inl ⟨by rfl, ?_⟩) hHeld ?_ ?_
  rotate_left
  · rintro w' ⟨s0, s1, s2, s3⟩
    go_simp
    with_reducible rfl
  rotate_left
  · simp only [Act.put, List.setIfInBounds_toArray, List.set_cons_zero, List.set_cons_succ, i64_w, i32_w]
    rfl
  refine take_ (i := 2) (N := some 30) (v := ?_) (a' := ?_) #[true, false, true, false, false, false, false, false, false, false, false] rfl rfl (by kernel_rfl) (fun _ _ _ h => h) (Or.inl ⟨by rfl, ?_⟩) hHeld ?_ ?_
  rotate_left
  · rintro w' ⟨s0, s1, s2, s3⟩
    go_simp
    with_reducible rfl
  rotate_left
  · simp only [Act.put, List.setIfInBounds_toArray, List.set_cons_zero, List.set_cons_succ, i64_w, i32_w]
    rfl
  refine join_ (σ := Value × Value × Value × Nat) 2 #[true, true, true, true, true, true, true, true, true, false, false] (fun s_ => [(29, .agg #[.int .i64 n0, s_.1]), (31, .agg #[.int .i64 n1, s_.2.1]), (32, .tuple #[.agg #[.int .i64 g12, s_.2.2.1], .int .i64 g14]), (6, .pointer (some ⟨s_.2.2.2, 0, none⟩)), (27, .tuple #[.agg #[.int .i64 g12, s_.2.2.1], .int .i64 g14]), (33, .agg #[.int .i64 g12, s_.2.2.1]), (34, .int .i64 g14)]) (fun s_ w' => (w'.cell? ⟨gb2, 0, none⟩ = some (.int .i64 n0) ∧ w'.cell? ⟨gb2, 1, none⟩ = some (.slice A0 l0.length c0) ∧ w'.cell? ⟨gb3, 0, none⟩ = some (.int .i64 n1) ∧ w'.cell? ⟨gb3, 1, none⟩ = some (.slice A1 l1.length c1)) ∧ F_ w' ∧ (Kd.R (Kd.int .i64) 2 w' w.heap.size (fun k_ => w8.heap.size ≤ k_ ∧ k_ < w'.heap.size ∧ k_ ≠ s_.2.2.2) s_.2.2.1 g13) ∧ (w'.heap[s_.2.2.2]? = some (.cells #[.int .i64 0, .slice none 0 0] 26 (0, 0))) ∧ (w8.heap.size ≤ s_.2.2.2) ∧ (s_.2.2.2 < w'.heap.size) ∧ (w8.heap.size ≤ w'.heap.size)) ?_ ?_
  rotate_left
  · intro hCont
    refine two_ (i := 1) (j := 8) (Ni := some 29) (Nj := some 6) #[true, true, true, false, false, false, false, false, false, false, false] #[true, false, true, false, false, false, false, false, true, false, false] rfl rfl rfl rfl (by kernel_rfl) (by decide) (by decide) (fun K hK => ?_) (fun K hK => ?_)
    · skip
      refine goes_ Try.func17 (by kernel_rfl) rfl #[.agg #[.int .i64 n0, .slice A0 l0.length c0]] (by rfl) rfl rfl (by (try simp only [List.map_toArray, List.map_cons, List.map_nil]); first | done | rfl | (simp only [List.length_drop, List.length_take]; rfl) | (simp only [iotaSS_length, iota_length]; done) | (simp only [iotaSS_length, iota_length]; rfl)) ?_
      (with_reducible refine (laws_toBraid.calls Kj10 n0 _ _ l0 n0 l0 _ ?side1 ?side2 Aj10).mono ?_)
      (case side1 => exact Kd.C_below HR0.out ((HUN.out _ (HMV.out w8 _ HF.out (by repeat (first | (with_reducible first | exact Below.refl _ _ | apply below_alloc | apply pw_below_drewN | apply below_drew1) | exact Below.refl _ _)))).1))
      (case side2 => exact HC0.out)
      rintro e w16 ⟨v17, rfl, ho, hb⟩
      refine ⟨_, rfl, ?_⟩
      have hs := below_step (by repeat (first | (with_reducible first | exact Below.refl _ _ | apply below_alloc | apply pw_below_drewN | apply below_drew1) | exact Below.refl _ _) : Below w8.heap.size w8 _) hb
      have Lw16 := Aside0.mk (below_size hs)
      have n_ := Aside0.mk (HMV.out _ _ HF.out hs)
      clear HF
      have HF := n_
      clear n_
      have HV18 := Aside0.mk (Kd.R_mono (Kd.R_bound ho) (fun k_ h_ => (⟨Nat.le_trans (below_size (by repeat (first | (with_reducible first | exact Below.refl _ _ | apply below_alloc | apply pw_below_drewN | apply below_drew1) | exact Below.refl _ _) : Below w8.heap.size w8 _)) h_.2.1, h_.2.2.1⟩ : w8.heap.size ≤ k_ ∧ k_ < w16.heap.size)))
      obtain ⟨Ao19, co20, rfl⟩ := Kd.R_slice HV18.out
      clear hs hb ho
      have hu_ := HUN.out _ HF.out
      refine hK.out _ _ ⟨(blk_cell hu_.2.1 0).trans rfl, (blk_cell hu_.2.1 1).trans rfl, (blk_cell hu_.2.2 0).trans rfl, (blk_cell hu_.2.2 1).trans rfl⟩ (fun hHeld => ?_)
      clear hK K hu_
      refine norm_ (a' := ?_) ?_ ?_
      rotate_left
      · show Act.put _ (some 29) _ = _
        simp only [Act.put, List.setIfInBounds_toArray, List.set_cons_zero, List.set_cons_succ, i64_w, i32_w]
        rfl
      refine two_ (i := 3) (j := 8) (Ni := some 31) (Nj := some 6) #[true, true, true, true, false, false, false, false, false, false, false] #[true, true, true, false, false, false, false, false, true, false, false] rfl rfl rfl rfl (by kernel_rfl) (by decide) (by decide) (fun K hK => ?_) (fun K hK => ?_)
      · skip
        refine goes_ Try.func17 (by kernel_rfl) rfl #[.agg #[.int .i64 n1, .slice A1 l1.length c1]] (by rfl) rfl rfl (by (try simp only [List.map_toArray, List.map_cons, List.map_nil]); first | done | rfl | (simp only [List.length_drop, List.length_take]; rfl) | (simp only [iotaSS_length, iota_length]; done) | (simp only [iotaSS_length, iota_length]; rfl)) ?_
        (with_reducible refine (laws_toBraid.calls Kj11 n1 _ _ l1 n1 l1 _ ?side1 ?side2 Aj11).mono ?_)
        (case side1 => exact Kd.C_below HR1.out ((HUN.out _ (HMV.out w16 _ HF.out (by repeat (first | (with_reducible first | exact Below.refl _ _ | apply below_alloc | apply pw_below_drewN | apply below_drew1) | exact Below.refl _ _)))).1))
        (case side2 => exact HC1.out)
        rintro e w21 ⟨v22, rfl, ho, hb⟩
        refine ⟨_, rfl, ?_⟩
        have hs := below_step (by repeat (first | (with_reducible first | exact Below.refl _ _ | apply below_alloc | apply pw_below_drewN | apply below_drew1) | exact Below.refl _ _) : Below w16.heap.size w16 _) hb
        have Lw21 := Aside0.mk (below_size hs)
        have n_ := Aside0.mk (HMV.out _ _ HF.out hs)
        clear HF
        have HF := n_
        clear n_
        have n_ := Aside0.mk (Kd.R_below HV18.out hs)
        clear HV18
        have HV18 := n_
        clear n_
        have HV23 := Aside0.mk (Kd.R_mono (Kd.R_bound ho) (fun k_ h_ => (⟨Nat.le_trans (below_size (by repeat (first | (with_reducible first | exact Below.refl _ _ | apply below_alloc | apply pw_below_drewN | apply below_drew1) | exact Below.refl _ _) : Below w16.heap.size w16 _)) h_.2.1, h_.2.2.1⟩ : w16.heap.size ≤ k_ ∧ k_ < w21.heap.size)))
        obtain ⟨Ao24, co25, rfl⟩ := Kd.R_slice HV23.out
        clear hs hb ho
        have hu_ := HUN.out _ HF.out
        refine hK.out _ _ ⟨(blk_cell hu_.2.1 0).trans rfl, (blk_cell hu_.2.1 1).trans rfl, (blk_cell hu_.2.2 0).trans rfl, (blk_cell hu_.2.2 1).trans rfl⟩ (fun hHeld => ?_)
        clear hK K hu_
        refine norm_ (a' := ?_) ?_ ?_
        rotate_left
        · show Act.put _ (some 31) _ = _
          simp only [Act.put, List.setIfInBounds_toArray, List.set_cons_zero, List.set_cons_succ, i64_w, i32_w]
          rfl
        refine two_ (i := 4) (j := 8) (Ni := some 32) (Nj := some 6) #[true, true, true, true, true, false, false, false, false, false, false] #[true, true, true, true, false, false, false, false, true, false, false] rfl rfl rfl rfl (by kernel_rfl) (by decide) (by decide) (fun K hK => ?_) (fun K hK => ?_)
        · skip
          refine goes_ Try.func16 (by kernel_rfl) rfl #[.agg #[.int .i64 n0, .slice Ao19 l0.length co20], .agg #[.int .i64 n1, .slice Ao24 l1.length co25]] (by rfl) rfl rfl (by (try simp only [List.map_toArray, List.map_cons, List.map_nil]); first | done | rfl | (simp only [List.length_drop, List.length_take]; rfl) | (simp only [iotaSS_length, iota_length]; done) | (simp only [iotaSS_length, iota_length]; rfl)) ?_
          (with_reducible refine (spec_ConjugateWord.calls Kj15 n0 _ _ l0 n1 _ _ l1 g12 g13 g14 _ ?side1 ?side2 ?side3 ?side4 Aj15).mono ?_)
          (case side1 => repeat (first | exact (Kd.R_reads' HV18.out).2.2 | (with_reducible refine Kd.C_alloc ?_ _) | (with_reducible refine Kd.C_drewN ?_ _) | (with_reducible refine Kd.C_drew ?_)))
          (case side2 => exact (Kd.R_reads' HV18.out).2.1)
          (case side3 => repeat (first | exact (Kd.R_reads' HV23.out).2.2 | (with_reducible refine Kd.C_alloc ?_ _) | (with_reducible refine Kd.C_drewN ?_ _) | (with_reducible refine Kd.C_drew ?_)))
          (case side4 => exact (Kd.R_reads' HV23.out).2.1)
          rintro e w26 ⟨v27, rfl, ho, hb⟩
          refine ⟨_, rfl, ?_⟩
          have hs := below_step (by repeat (first | (with_reducible first | exact Below.refl _ _ | apply below_alloc | apply pw_below_drewN | apply below_drew1) | exact Below.refl _ _) : Below w21.heap.size w21 _) hb
          have Lw26 := Aside0.mk (below_size hs)
          have hFo_ := HF
          have n_ := Aside0.mk (HMV.out _ _ HF.out hs)
          clear HF
          have HF := n_
          clear n_
          have n_ := Aside0.mk (Kd.R_below HV18.out hs)
          clear HV18
          have HV18 := n_
          clear n_
          have n_ := Aside0.mk (Kd.R_below HV23.out hs)
          clear HV23
          have HV23 := n_
          clear n_
          have HV28 := Aside0.mk (Kd.R_mono (Kd.R_bound ho) (fun k_ h_ => (⟨Nat.le_trans (below_size (by repeat (first | (with_reducible first | exact Below.refl _ _ | apply below_alloc | apply pw_below_drewN | apply below_drew1) | exact Below.refl _ _) : Below w21.heap.size w21 _)) h_.2.1, h_.2.2.1⟩ : w21.heap.size ≤ k_ ∧ k_ < w26.heap.size)))
          obtain ⟨Ao29, co30, rfl⟩ := Kd.R_slice HV28.out
          have n_ := Aside0.mk (Kd.R_lower HV28.out (below_size ((HUN.out _ (HMV.out _ _ hFo_.out (by repeat (first | (with_reducible first | exact Below.refl _ _ | apply below_alloc | apply pw_below_drewN | apply below_drew1) | exact Below.refl _ _) : Below w21.heap.size w21 _))).1)))
          clear HV28
          have HV28 := n_
          clear n_
          clear hs hb ho
          have hu_ := HUN.out _ HF.out
          refine hK.out _ _ ⟨(blk_cell hu_.2.1 0).trans rfl, (blk_cell hu_.2.1 1).trans rfl, (blk_cell hu_.2.2 0).trans rfl, (blk_cell hu_.2.2 1).trans rfl⟩ (fun hHeld => ?_)
          clear hK K hu_
          refine norm_ (a' := ?_) ?_ ?_
          rotate_left
          · show Act.put _ (some 32) _ = _
            simp only [Act.put, List.setIfInBounds_toArray, List.set_cons_zero, List.set_cons_succ, i64_w, i32_w]
            rfl
          refine pure_ (i := 5) (N := some 27) (v := ?_) (a' := ?_) #[true, true, true, true, true, true, false, false, false, false, false] rfl rfl (by kernel_rfl) (fun _ _ _ h => h) (Or.inl ⟨by rfl, ?_⟩) ?_ ?_
          rotate_left
          · intro w'
            go_simp
            with_reducible rfl
          rotate_left
          · simp only [Act.put, List.setIfInBounds_toArray, List.set_cons_zero, List.set_cons_succ, i64_w, i32_w]
            rfl
          refine pure_ (i := 6) (N := some 33) (v := ?_) (a' := ?_) #[true, true, true, true, true, true, true, false, false, false, false] rfl rfl (by kernel_rfl) (fun _ _ _ h => h) (Or.inl ⟨by rfl, ?_⟩) ?_ ?_
          rotate_left
          · intro w'
            go_simp
            with_reducible rfl
          rotate_left
          · simp only [Act.put, List.setIfInBounds_toArray, List.set_cons_zero, List.set_cons_succ, i64_w, i32_w]
            rfl
          refine pure_ (i := 7) (N := some 34) (v := ?_) (a' := ?_) #[true, true, true, true, true, true, true, true, false, false, false] rfl rfl (by kernel_rfl) (fun _ _ _ h => h) (Or.inl ⟨by rfl, ?_⟩) ?_ ?_
          rotate_left
          · intro w'
            go_simp
            with_reducible rfl
          rotate_left
          · simp only [Act.put, List.setIfInBounds_toArray, List.set_cons_zero, List.set_cons_succ, i64_w, i32_w]
            rfl
          refine one_ (i := 8) (N := some 6) #[true, true, true, true, true, true, true, true, true, false, false] rfl rfl (by kernel_rfl) (by decide) (fun K hK => ?_)
          refine box_step ?hg (N := 6) ?hd (cs := #[.int .i64 0, .slice none 0 0]) (t := 26) ?hr ?_; (case hd => rfl); (case hg => rfl); (case hr => first | (go_simp; done) | (go_simp; rfl))
          intro gx32 hg w31 hbox hb
          have hs := below_step (by repeat (first | (with_reducible first | exact Below.refl _ _ | apply below_alloc | apply pw_below_drewN | apply below_drew1) | exact Below.refl _ _) : Below w26.heap.size w26 _) hb
          have Lw31 := Aside0.mk (below_size hs)
          have GEgx32 : Aside0 (w26.heap.size ≤ gx32) := ⟨by rw [hg]; exact below_size (by repeat (first | (with_reducible first | exact Below.refl _ _ | apply below_alloc | apply pw_below_drewN | apply below_drew1) | exact Below.refl _ _) : Below w26.heap.size w26 _)⟩
          have GLgx32 : Aside0 (gx32 < w31.heap.size) := ⟨blk_lt hbox⟩
          have n_ := Aside0.mk (HMV.out _ _ HF.out hs)
          clear HF
          have HF := n_
          clear n_
          have n_ := Aside0.mk (Kd.R_below HV18.out hs)
          clear HV18
          have HV18 := n_
          clear n_
          have n_ := Aside0.mk (Kd.R_below HV23.out hs)
          clear HV23
          have HV23 := n_
          clear n_
          have n_ := Aside0.mk (Kd.R_below HV28.out hs)
          clear HV28
          have HV28 := n_
          clear n_
          have BKgx32 := Aside0.mk hbox
          clear hbox hb hs hg
          have hu_ := HUN.out _ HF.out
          refine hK.out _ _ ⟨(blk_cell hu_.2.1 0).trans rfl, (blk_cell hu_.2.1 1).trans rfl, (blk_cell hu_.2.2 0).trans rfl, (blk_cell hu_.2.2 1).trans rfl⟩ (fun hHeld => ?_)
          clear hK K hu_
          refine norm_ (a' := ?_) ?_ ?_
          rotate_left
          · show Act.put _ (some 6) _ = _
            simp only [Act.put, List.setIfInBounds_toArray, List.set_cons_zero, List.set_cons_succ, i64_w, i32_w]
            rfl
          have hz0 : w8.heap.size ≤ gx32 ∧ gx32 < w31.heap.size ∧ w8.heap.size ≤ w31.heap.size := (by have := Lw1.out; have := Lw2.out; have := Lw5.out; have := Lw8.out; have := Lw16.out; have := Lw21.out; have := Lw26.out; have := Lw31.out; have := GEgx32.out; have := GLgx32.out; omega)
          have hz1 : Kd.R (Kd.int .i64) 2 w31 w.heap.size (fun k_ => w8.heap.size ≤ k_ ∧ k_ < w31.heap.size ∧ k_ ≠ gx32) (.slice Ao29 g13.length co30) g13 := Kd.R_mono HV28.out (fun k_ h_ => by have := h_.1; have := h_.2; have := Lw1.out; have := Lw2.out; have := Lw5.out; have := Lw8.out; have := Lw16.out; have := Lw21.out; have := Lw26.out; have := Lw31.out; have := GEgx32.out; have := GLgx32.out; omega)
          exact norm_ (by simp only [putAll, Act.put, List.setIfInBounds_toArray, List.set_cons_zero, List.set_cons_succ]) (hCont (.slice Ao19 l0.length co20, .slice Ao24 l1.length co25, .slice Ao29 g13.length co30, gx32) _ ⟨hHeld, HF.out, hz1, BKgx32.out, hz0⟩)
        · skip
          refine box_step ?hg (N := 6) ?hd (cs := #[.int .i64 0, .slice none 0 0]) (t := 26) ?hr ?_; (case hd => rfl); (case hg => rfl); (case hr => first | (go_simp; done) | (go_simp; rfl))
          intro gx34 hg w33 hbox hb
          have hs := below_step (by repeat (first | (with_reducible first | exact Below.refl _ _ | apply below_alloc | apply pw_below_drewN | apply below_drew1) | exact Below.refl _ _) : Below w21.heap.size w21 _) hb
          have Lw33 := Aside0.mk (below_size hs)
          have GEgx34 : Aside0 (w21.heap.size ≤ gx34) := ⟨by rw [hg]; exact below_size (by repeat (first | (with_reducible first | exact Below.refl _ _ | apply below_alloc | apply pw_below_drewN | apply below_drew1) | exact Below.refl _ _) : Below w21.heap.size w21 _)⟩
          have GLgx34 : Aside0 (gx34 < w33.heap.size) := ⟨blk_lt hbox⟩
          have n_ := Aside0.mk (HMV.out _ _ HF.out hs)
          clear HF
          have HF := n_
          clear n_
          have n_ := Aside0.mk (Kd.R_below HV18.out hs)
          clear HV18
          have HV18 := n_
          clear n_
          have n_ := Aside0.mk (Kd.R_below HV23.out hs)
          clear HV23
          have HV23 := n_
          clear n_
          have BKgx34 := Aside0.mk hbox
          clear hbox hb hs hg
          have hu_ := HUN.out _ HF.out
          refine hK.out _ _ ⟨(blk_cell hu_.2.1 0).trans rfl, (blk_cell hu_.2.1 1).trans rfl, (blk_cell hu_.2.2 0).trans rfl, (blk_cell hu_.2.2 1).trans rfl⟩ (fun hHeld => ?_)
          clear hK K hu_
          refine norm_ (a' := ?_) ?_ ?_
          rotate_left
          · show Act.put _ (some 6) _ = _
            simp only [Act.put, List.setIfInBounds_toArray, List.set_cons_zero, List.set_cons_succ, i64_w, i32_w]
            rfl
          refine one_ (i := 4) (N := some 32) #[true, true, true, true, true, false, false, false, true, false, false] rfl rfl (by kernel_rfl) (by decide) (fun K hK => ?_)
          refine goes_ Try.func16 (by kernel_rfl) rfl #[.agg #[.int .i64 n0, .slice Ao19 l0.length co20], .agg #[.int .i64 n1, .slice Ao24 l1.length co25]] (by rfl) rfl rfl (by (try simp only [List.map_toArray, List.map_cons, List.map_nil]); first | done | rfl | (simp only [List.length_drop, List.length_take]; rfl) | (simp only [iotaSS_length, iota_length]; done) | (simp only [iotaSS_length, iota_length]; rfl)) ?_
          (with_reducible refine (spec_ConjugateWord.calls Kj15 n0 _ _ l0 n1 _ _ l1 g12 g13 g14 _ ?side1 ?side2 ?side3 ?side4 Aj15).mono ?_)
          (case side1 => repeat (first | exact (Kd.R_reads' HV18.out).2.2 | (with_reducible refine Kd.C_alloc ?_ _) | (with_reducible refine Kd.C_drewN ?_ _) | (with_reducible refine Kd.C_drew ?_)))
          (case side2 => exact (Kd.R_reads' HV18.out).2.1)
          (case side3 => repeat (first | exact (Kd.R_reads' HV23.out).2.2 | (with_reducible refine Kd.C_alloc ?_ _) | (with_reducible refine Kd.C_drewN ?_ _) | (with_reducible refine Kd.C_drew ?_)))
          (case side4 => exact (Kd.R_reads' HV23.out).2.1)
          rintro e w35 ⟨v36, rfl, ho, hb⟩
          refine ⟨_, rfl, ?_⟩
          have hs := below_step (by repeat (first | (with_reducible first | exact Below.refl _ _ | apply below_alloc | apply pw_below_drewN | apply below_drew1) | exact Below.refl _ _) : Below w33.heap.size w33 _) hb
          have Lw35 := Aside0.mk (below_size hs)
          have hFo_ := HF
          have n_ := Aside0.mk (HMV.out _ _ HF.out hs)
          clear HF
          have HF := n_
          clear n_
          have n_ := Aside0.mk (Kd.R_below HV18.out hs)
          clear HV18
          have HV18 := n_
          clear n_
          have n_ := Aside0.mk (Kd.R_below HV23.out hs)
          clear HV23
          have HV23 := n_
          clear n_
          have n_ := Aside0.mk (blk_below BKgx34.out hs)
          clear BKgx34
          have BKgx34 := n_
          clear n_
          have HV37 := Aside0.mk (Kd.R_mono (Kd.R_bound ho) (fun k_ h_ => (⟨Nat.le_trans (below_size (by repeat (first | (with_reducible first | exact Below.refl _ _ | apply below_alloc | apply pw_below_drewN | apply below_drew1) | exact Below.refl _ _) : Below w33.heap.size w33 _)) h_.2.1, h_.2.2.1⟩ : w33.heap.size ≤ k_ ∧ k_ < w35.heap.size)))
          obtain ⟨Ao38, co39, rfl⟩ := Kd.R_slice HV37.out
          have n_ := Aside0.mk (Kd.R_lower HV37.out (below_size ((HUN.out _ (HMV.out _ _ hFo_.out (by repeat (first | (with_reducible first | exact Below.refl _ _ | apply below_alloc | apply pw_below_drewN | apply below_drew1) | exact Below.refl _ _) : Below w33.heap.size w33 _))).1)))
          clear HV37
          have HV37 := n_
          clear n_
          clear hs hb ho
          have hu_ := HUN.out _ HF.out
          refine hK.out _ _ ⟨(blk_cell hu_.2.1 0).trans rfl, (blk_cell hu_.2.1 1).trans rfl, (blk_cell hu_.2.2 0).trans rfl, (blk_cell hu_.2.2 1).trans rfl⟩ (fun hHeld => ?_)
          clear hK K hu_
          refine norm_ (a' := ?_) ?_ ?_
          rotate_left
          · show Act.put _ (some 32) _ = _
            simp only [Act.put, List.setIfInBounds_toArray, List.set_cons_zero, List.set_cons_succ, i64_w, i32_w]
            rfl
          refine pure_ (i := 5) (N := some 27) (v := ?_) (a' := ?_) #[true, true, true, true, true, true, false, false, true, false, false] rfl rfl (by kernel_rfl) (fun _ _ _ h => h) (Or.inl ⟨by rfl, ?_⟩) ?_ ?_
          rotate_left
          · intro w'
            go_simp
            with_reducible rfl
          rotate_left
          · simp only [Act.put, List.setIfInBounds_toArray, List.set_cons_zero, List.set_cons_succ, i64_w, i32_w]
            rfl
          refine pure_ (i := 6) (N := some 33) (v := ?_) (a' := ?_) #[true, true, true, true, true, true, true, false, true, false, false] rfl rfl (by kernel_rfl) (fun _ _ _ h => h) (Or.inl ⟨by rfl, ?_⟩) ?_ ?_
          rotate_left
          · intro w'
            go_simp
            with_reducible rfl
          rotate_left
          · simp only [Act.put, List.setIfInBounds_toArray, List.set_cons_zero, List.set_cons_succ, i64_w, i32_w]
            rfl
          refine pure_ (i := 7) (N := some 34) (v := ?_) (a' := ?_) #[true, true, true, true, true, true, true, true, true, false, false] rfl rfl (by kernel_rfl) (fun _ _ _ h => h) (Or.inl ⟨by rfl, ?_⟩) ?_ ?_
          rotate_left
          · intro w'
            go_simp
            with_reducible rfl
          rotate_left
          · simp only [Act.put, List.setIfInBounds_toArray, List.set_cons_zero, List.set_cons_succ, i64_w, i32_w]
            rfl
          have hz0 : w8.heap.size ≤ gx34 ∧ gx34 < w35.heap.size ∧ w8.heap.size ≤ w35.heap.size := (by have := Lw1.out; have := Lw2.out; have := Lw5.out; have := Lw8.out; have := Lw16.out; have := Lw21.out; have := Lw33.out; have := Lw35.out; have := GEgx34.out; have := GLgx34.out; omega)
          have hz1 : Kd.R (Kd.int .i64) 2 w35 w.heap.size (fun k_ => w8.heap.size ≤ k_ ∧ k_ < w35.heap.size ∧ k_ ≠ gx34) (.slice Ao38 g13.length co39) g13 := Kd.R_mono HV37.out (fun k_ h_ => by have := h_.1; have := h_.2; have := Lw1.out; have := Lw2.out; have := Lw5.out; have := Lw8.out; have := Lw16.out; have := Lw21.out; have := Lw33.out; have := Lw35.out; have := GEgx34.out; have := GLgx34.out; omega)
          exact norm_ (by simp only [putAll, Act.put, List.setIfInBounds_toArray, List.set_cons_zero, List.set_cons_succ]) (hCont (.slice Ao19 l0.length co20, .slice Ao24 l1.length co25, .slice Ao38 g13.length co39, gx34) _ ⟨hHeld, HF.out, hz1, BKgx34.out, hz0⟩)
      · skip
        refine box_step ?hg (N := 6) ?hd (cs := #[.int .i64 0, .slice none 0 0]) (t := 26) ?hr ?_; (case hd => rfl); (case hg => rfl); (case hr => first | (go_simp; done) | (go_simp; rfl))
        intro gx41 hg w40 hbox hb
        have hs := below_step (by repeat (first | (with_reducible first | exact Below.refl _ _ | apply below_alloc | apply pw_below_drewN | apply below_drew1) | exact Below.refl _ _) : Below w16.heap.size w16 _) hb
        have Lw40 := Aside0.mk (below_size hs)
        have GEgx41 : Aside0 (w16.heap.size ≤ gx41) := ⟨by rw [hg]; exact below_size (by repeat (first | (with_reducible first | exact Below.refl _ _ | apply below_alloc | apply pw_below_drewN | apply below_drew1) | exact Below.refl _ _) : Below w16.heap.size w16 _)⟩
        have GLgx41 : Aside0 (gx41 < w40.heap.size) := ⟨blk_lt hbox⟩
        have n_ := Aside0.mk (HMV.out _ _ HF.out hs)
        clear HF
        have HF := n_
        clear n_
        have n_ := Aside0.mk (Kd.R_below HV18.out hs)
        clear HV18
        have HV18 := n_
        clear n_
        have BKgx41 := Aside0.mk hbox
        clear hbox hb hs hg
        have hu_ := HUN.out _ HF.out
        refine hK.out _ _ ⟨(blk_cell hu_.2.1 0).trans rfl, (blk_cell hu_.2.1 1).trans rfl, (blk_cell hu_.2.2 0).trans rfl, (blk_cell hu_.2.2 1).trans rfl⟩ (fun hHeld => ?_)
        clear hK K hu_
        refine norm_ (a' := ?_) ?_ ?_
        rotate_left
        · show Act.put _ (some 6) _ = _
          simp only [Act.put, List.setIfInBounds_toArray, List.set_cons_zero, List.set_cons_succ, i64_w, i32_w]
          rfl
        refine one_ (i := 3) (N := some 31) #[true, true, true, true, false, false, false, false, true, false, false] rfl rfl (by kernel_rfl) (by decide) (fun K hK => ?_)
        refine goes_ Try.func17 (by kernel_rfl) rfl #[.agg #[.int .i64 n1, .slice A1 l1.length c1]] (by rfl) rfl rfl (by (try simp only [List.map_toArray, List.map_cons, List.map_nil]); first | done | rfl | (simp only [List.length_drop, List.length_take]; rfl) | (simp only [iotaSS_length, iota_length]; done) | (simp only [iotaSS_length, iota_length]; rfl)) ?_
        (with_reducible refine (laws_toBraid.calls Kj11 n1 _ _ l1 n1 l1 _ ?side1 ?side2 Aj11).mono ?_)
        (case side1 => exact Kd.C_below HR1.out ((HUN.out _ (HMV.out w40 _ HF.out (by repeat (first | (with_reducible first | exact Below.refl _ _ | apply below_alloc | apply pw_below_drewN | apply below_drew1) | exact Below.refl _ _)))).1))
        (case side2 => exact HC1.out)
        rintro e w42 ⟨v43, rfl, ho, hb⟩
        refine ⟨_, rfl, ?_⟩
        have hs := below_step (by repeat (first | (with_reducible first | exact Below.refl _ _ | apply below_alloc | apply pw_below_drewN | apply below_drew1) | exact Below.refl _ _) : Below w40.heap.size w40 _) hb
        have Lw42 := Aside0.mk (below_size hs)
        have n_ := Aside0.mk (HMV.out _ _ HF.out hs)
        clear HF
        have HF := n_
        clear n_
        have n_ := Aside0.mk (Kd.R_below HV18.out hs)
        clear HV18
        have HV18 := n_
        clear n_
        have n_ := Aside0.mk (blk_below BKgx41.out hs)
        clear BKgx41
        have BKgx41 := n_
        clear n_
        have HV44 := Aside0.mk (Kd.R_mono (Kd.R_bound ho) (fun k_ h_ => (⟨Nat.le_trans (below_size (by repeat (first | (with_reducible first | exact Below.refl _ _ | apply below_alloc | apply pw_below_drewN | apply below_drew1) | exact Below.refl _ _) : Below w40.heap.size w40 _)) h_.2.1, h_.2.2.1⟩ : w40.heap.size ≤ k_ ∧ k_ < w42.heap.size)))
        obtain ⟨Ao45, co46, rfl⟩ := Kd.R_slice HV44.out
        clear hs hb ho
        have hu_ := HUN.out _ HF.out
        refine hK.out _ _ ⟨(blk_cell hu_.2.1 0).trans rfl, (blk_cell hu_.2.1 1).trans rfl, (blk_cell hu_.2.2 0).trans rfl, (blk_cell hu_.2.2 1).trans rfl⟩ (fun hHeld => ?_)
        clear hK K hu_
        refine norm_ (a' := ?_) ?_ ?_
        rotate_left
        · show Act.put _ (some 31) _ = _
          simp only [Act.put, List.setIfInBounds_toArray, List.set_cons_zero, List.set_cons_succ, i64_w, i32_w]
          rfl
        refine one_ (i := 4) (N := some 32) #[true, true, true, true, true, false, false, false, true, false, false] rfl rfl (by kernel_rfl) (by decide) (fun K hK => ?_)
        refine goes_ Try.func16 (by kernel_rfl) rfl #[.agg #[.int .i64 n0, .slice Ao19 l0.length co20], .agg #[.int .i64 n1, .slice Ao45 l1.length co46]] (by rfl) rfl rfl (by (try simp only [List.map_toArray, List.map_cons, List.map_nil]); first | done | rfl | (simp only [List.length_drop, List.length_take]; rfl) | (simp only [iotaSS_length, iota_length]; done) | (simp only [iotaSS_length, iota_length]; rfl)) ?_
        (with_reducible refine (spec_ConjugateWord.calls Kj15 n0 _ _ l0 n1 _ _ l1 g12 g13 g14 _ ?side1 ?side2 ?side3 ?side4 Aj15).mono ?_)
        (case side1 => repeat (first | exact (Kd.R_reads' HV18.out).2.2 | (with_reducible refine Kd.C_alloc ?_ _) | (with_reducible refine Kd.C_drewN ?_ _) | (with_reducible refine Kd.C_drew ?_)))
        (case side2 => exact (Kd.R_reads' HV18.out).2.1)
        (case side3 => repeat (first | exact (Kd.R_reads' HV44.out).2.2 | (with_reducible refine Kd.C_alloc ?_ _) | (with_reducible refine Kd.C_drewN ?_ _) | (with_reducible refine Kd.C_drew ?_)))
        (case side4 => exact (Kd.R_reads' HV44.out).2.1)
        rintro e w47 ⟨v48, rfl, ho, hb⟩
        refine ⟨_, rfl, ?_⟩
        have hs := below_step (by repeat (first | (with_reducible first | exact Below.refl _ _ | apply below_alloc | apply pw_below_drewN | apply below_drew1) | exact Below.refl _ _) : Below w42.heap.size w42 _) hb
        have Lw47 := Aside0.mk (below_size hs)
        have hFo_ := HF
        have n_ := Aside0.mk (HMV.out _ _ HF.out hs)
        clear HF
        have HF := n_
        clear n_
        have n_ := Aside0.mk (Kd.R_below HV18.out hs)
        clear HV18
        have HV18 := n_
        clear n_
        have n_ := Aside0.mk (Kd.R_below HV44.out hs)
        clear HV44
        have HV44 := n_
        clear n_
        have n_ := Aside0.mk (blk_below BKgx41.out hs)
        clear BKgx41
        have BKgx41 := n_
        clear n_
        have HV49 := Aside0.mk (Kd.R_mono (Kd.R_bound ho) (fun k_ h_ => (⟨Nat.le_trans (below_size (by repeat (first | (with_reducible first | exact Below.refl _ _ | apply below_alloc | apply pw_below_drewN | apply below_drew1) | exact Below.refl _ _) : Below w42.heap.size w42 _)) h_.2.1, h_.2.2.1⟩ : w42.heap.size ≤ k_ ∧ k_ < w47.heap.size)))
        obtain ⟨Ao50, co51, rfl⟩ := Kd.R_slice HV49.out
        have n_ := Aside0.mk (Kd.R_lower HV49.out (below_size ((HUN.out _ (HMV.out _ _ hFo_.out (by repeat (first | (with_reducible first | exact Below.refl _ _ | apply below_alloc | apply pw_below_drewN | apply below_drew1) | exact Below.refl _ _) : Below w42.heap.size w42 _))).1)))
        clear HV49
        have HV49 := n_
        clear n_
        clear hs hb ho
        have hu_ := HUN.out _ HF.out
        refine hK.out _ _ ⟨(blk_cell hu_.2.1 0).trans rfl, (blk_cell hu_.2.1 1).trans rfl, (blk_cell hu_.2.2 0).trans rfl, (blk_cell hu_.2.2 1).trans rfl⟩ (fun hHeld => ?_)
        clear hK K hu_
        refine norm_ (a' := ?_) ?_ ?_
        rotate_left
        · show Act.put _ (some 32) _ = _
          simp only [Act.put, List.setIfInBounds_toArray, List.set_cons_zero, List.set_cons_succ, i64_w, i32_w]
          rfl
        refine pure_ (i := 5) (N := some 27) (v := ?_) (a' := ?_) #[true, true, true, true, true, true, false, false, true, false, false] rfl rfl (by kernel_rfl) (fun _ _ _ h => h) (Or.inl ⟨by rfl, ?_⟩) ?_ ?_
        rotate_left
        · intro w'
          go_simp
          with_reducible rfl
        rotate_left
        · simp only [Act.put, List.setIfInBounds_toArray, List.set_cons_zero, List.set_cons_succ, i64_w, i32_w]
          rfl
        refine pure_ (i := 6) (N := some 33) (v := ?_) (a' := ?_) #[true, true, true, true, true, true, true, false, true, false, false] rfl rfl (by kernel_rfl) (fun _ _ _ h => h) (Or.inl ⟨by rfl, ?_⟩) ?_ ?_
        rotate_left
        · intro w'
          go_simp
          with_reducible rfl
        rotate_left
        · simp only [Act.put, List.setIfInBounds_toArray, List.set_cons_zero, List.set_cons_succ, i64_w, i32_w]
          rfl
        refine pure_ (i := 7) (N := some 34) (v := ?_) (a' := ?_) #[true, true, true, true, true, true, true, true, true, false, false] rfl rfl (by kernel_rfl) (fun _ _ _ h => h) (Or.inl ⟨by rfl, ?_⟩) ?_ ?_
        rotate_left
        · intro w'
          go_simp
          with_reducible rfl
        rotate_left
        · simp only [Act.put, List.setIfInBounds_toArray, List.set_cons_zero, List.set_cons_succ, i64_w, i32_w]
          rfl
        have hz0 : w8.heap.size ≤ gx41 ∧ gx41 < w47.heap.size ∧ w8.heap.size ≤ w47.heap.size := (by have := Lw1.out; have := Lw2.out; have := Lw5.out; have := Lw8.out; have := Lw16.out; have := Lw40.out; have := Lw42.out; have := Lw47.out; have := GEgx41.out; have := GLgx41.out; omega)
        have hz1 : Kd.R (Kd.int .i64) 2 w47 w.heap.size (fun k_ => w8.heap.size ≤ k_ ∧ k_ < w47.heap.size ∧ k_ ≠ gx41) (.slice Ao50 g13.length co51) g13 := Kd.R_mono HV49.out (fun k_ h_ => by have := h_.1; have := h_.2; have := Lw1.out; have := Lw2.out; have := Lw5.out; have := Lw8.out; have := Lw16.out; have := Lw40.out; have := Lw42.out; have := Lw47.out; have := GEgx41.out; have := GLgx41.out; omega)
        exact norm_ (by simp only [putAll, Act.put, List.setIfInBounds_toArray, List.set_cons_zero, List.set_cons_succ]) (hCont (.slice Ao19 l0.length co20, .slice Ao45 l1.length co46, .slice Ao50 g13.length co51, gx41) _ ⟨hHeld, HF.out, hz1, BKgx41.out, hz0⟩)
    · skip
      refine box_step ?hg (N := 6) ?hd (cs := #[.int .i64 0, .slice none 0 0]) (t := 26) ?hr ?_; (case hd => rfl); (case hg => rfl); (case hr => first | (go_simp; done) | (go_simp; rfl))
      intro gx53 hg w52 hbox hb
      have hs := below_step (by repeat (first | (with_reducible first | exact Below.refl _ _ | apply below_alloc | apply pw_below_drewN | apply below_drew1) | exact Below.refl _ _) : Below w8.heap.size w8 _) hb
      have Lw52 := Aside0.mk (below_size hs)
      have GEgx53 : Aside0 (w8.heap.size ≤ gx53) := ⟨by rw [hg]; exact below_size (by repeat (first | (with_reducible first | exact Below.refl _ _ | apply below_alloc | apply pw_below_drewN | apply below_drew1) | exact Below.refl _ _) : Below w8.heap.size w8 _)⟩
      have GLgx53 : Aside0 (gx53 < w52.heap.size) := ⟨blk_lt hbox⟩
      have n_ := Aside0.mk (HMV.out _ _ HF.out hs)
      clear HF
      have HF := n_
      clear n_
      have BKgx53 := Aside0.mk hbox
      clear hbox hb hs hg
      have hu_ := HUN.out _ HF.out
      refine hK.out _ _ ⟨(blk_cell hu_.2.1 0).trans rfl, (blk_cell hu_.2.1 1).trans rfl, (blk_cell hu_.2.2 0).trans rfl, (blk_cell hu_.2.2 1).trans rfl⟩ (fun hHeld => ?_)
      clear hK K hu_
      refine norm_ (a' := ?_) ?_ ?_
      rotate_left
      · show Act.put _ (some 6) _ = _
        simp only [Act.put, List.setIfInBounds_toArray, List.set_cons_zero, List.set_cons_succ, i64_w, i32_w]
        rfl
      refine one_ (i := 1) (N := some 29) #[true, true, true, false, false, false, false, false, true, false, false] rfl rfl (by kernel_rfl) (by decide) (fun K hK => ?_)
      refine goes_ Try.func17 (by kernel_rfl) rfl #[.agg #[.int .i64 n0, .slice A0 l0.length c0]] (by rfl) rfl rfl (by (try simp only [List.map_toArray, List.map_cons, List.map_nil]); first | done | rfl | (simp only [List.length_drop, List.length_take]; rfl) | (simp only [iotaSS_length, iota_length]; done) | (simp only [iotaSS_length, iota_length]; rfl)) ?_
      (with_reducible refine (laws_toBraid.calls Kj10 n0 _ _ l0 n0 l0 _ ?side1 ?side2 Aj10).mono ?_)
      (case side1 => exact Kd.C_below HR0.out ((HUN.out _ (HMV.out w52 _ HF.out (by repeat (first | (with_reducible first | exact Below.refl _ _ | apply below_alloc | apply pw_below_drewN | apply below_drew1) | exact Below.refl _ _)))).1))
      (case side2 => exact HC0.out)
      rintro e w54 ⟨v55, rfl, ho, hb⟩
      refine ⟨_, rfl, ?_⟩
      have hs := below_step (by repeat (first | (with_reducible first | exact Below.refl _ _ | apply below_alloc | apply pw_below_drewN | apply below_drew1) | exact Below.refl _ _) : Below w52.heap.size w52 _) hb
      have Lw54 := Aside0.mk (below_size hs)
      have n_ := Aside0.mk (HMV.out _ _ HF.out hs)
      clear HF
      have HF := n_
      clear n_
      have n_ := Aside0.mk (blk_below BKgx53.out hs)
      clear BKgx53
      have BKgx53 := n_
      clear n_
      have HV56 := Aside0.mk (Kd.R_mono (Kd.R_bound ho) (fun k_ h_ => (⟨Nat.le_trans (below_size (by repeat (first | (with_reducible first | exact Below.refl _ _ | apply below_alloc | apply pw_below_drewN | apply below_drew1) | exact Below.refl _ _) : Below w52.heap.size w52 _)) h_.2.1, h_.2.2.1⟩ : w52.heap.size ≤ k_ ∧ k_ < w54.heap.size)))
      obtain ⟨Ao57, co58, rfl⟩ := Kd.R_slice HV56.out
      clear hs hb ho
      have hu_ := HUN.out _ HF.out
      refine hK.out _ _ ⟨(blk_cell hu_.2.1 0).trans rfl, (blk_cell hu_.2.1 1).trans rfl, (blk_cell hu_.2.2 0).trans rfl, (blk_cell hu_.2.2 1).trans rfl⟩ (fun hHeld => ?_)
      clear hK K hu_
      refine norm_ (a' := ?_) ?_ ?_
      rotate_left
      · show Act.put _ (some 29) _ = _
        simp only [Act.put, List.setIfInBounds_toArray, List.set_cons_zero, List.set_cons_succ, i64_w, i32_w]
        rfl
      refine one_ (i := 3) (N := some 31) #[true, true, true, true, false, false, false, false, true, false, false] rfl rfl (by kernel_rfl) (by decide) (fun K hK => ?_)
      refine goes_ Try.func17 (by kernel_rfl) rfl #[.agg #[.int .i64 n1, .slice A1 l1.length c1]] (by rfl) rfl rfl (by (try simp only [List.map_toArray, List.map_cons, List.map_nil]); first | done | rfl | (simp only [List.length_drop, List.length_take]; rfl) | (simp only [iotaSS_length, iota_length]; done) | (simp only [iotaSS_length, iota_length]; rfl)) ?_
      (with_reducible refine (laws_toBraid.calls Kj11 n1 _ _ l1 n1 l1 _ ?side1 ?side2 Aj11).mono ?_)
      (case side1 => exact Kd.C_below HR1.out ((HUN.out _ (HMV.out w54 _ HF.out (by repeat (first | (with_reducible first | exact Below.refl _ _ | apply below_alloc | apply pw_below_drewN | apply below_drew1) | exact Below.refl _ _)))).1))
      (case side2 => exact HC1.out)
      rintro e w59 ⟨v60, rfl, ho, hb⟩
      refine ⟨_, rfl, ?_⟩
      have hs := below_step (by repeat (first | (with_reducible first | exact Below.refl _ _ | apply below_alloc | apply pw_below_drewN | apply below_drew1) | exact Below.refl _ _) : Below w54.heap.size w54 _) hb
      have Lw59 := Aside0.mk (below_size hs)
      have n_ := Aside0.mk (HMV.out _ _ HF.out hs)
      clear HF
      have HF := n_
      clear n_
      have n_ := Aside0.mk (Kd.R_below HV56.out hs)
      clear HV56
      have HV56 := n_
      clear n_
      have n_ := Aside0.mk (blk_below BKgx53.out hs)
      clear BKgx53
      have BKgx53 := n_
      clear n_
      have HV61 := Aside0.mk (Kd.R_mono (Kd.R_bound ho) (fun k_ h_ => (⟨Nat.le_trans (below_size (by repeat (first | (with_reducible first | exact Below.refl _ _ | apply below_alloc | apply pw_below_drewN | apply below_drew1) | exact Below.refl _ _) : Below w54.heap.size w54 _)) h_.2.1, h_.2.2.1⟩ : w54.heap.size ≤ k_ ∧ k_ < w59.heap.size)))
      obtain ⟨Ao62, co63, rfl⟩ := Kd.R_slice HV61.out
      clear hs hb ho
      have hu_ := HUN.out _ HF.out
      refine hK.out _ _ ⟨(blk_cell hu_.2.1 0).trans rfl, (blk_cell hu_.2.1 1).trans rfl, (blk_cell hu_.2.2 0).trans rfl, (blk_cell hu_.2.2 1).trans rfl⟩ (fun hHeld => ?_)
      clear hK K hu_
      refine norm_ (a' := ?_) ?_ ?_
      rotate_left
      · show Act.put _ (some 31) _ = _
        simp only [Act.put, List.setIfInBounds_toArray, List.set_cons_zero, List.set_cons_succ, i64_w, i32_w]
        rfl
      refine one_ (i := 4) (N := some 32) #[true, true, true, true, true, false, false, false, true, false, false] rfl rfl (by kernel_rfl) (by decide) (fun K hK => ?_)
      refine goes_ Try.func16 (by kernel_rfl) rfl #[.agg #[.int .i64 n0, .slice Ao57 l0.length co58], .agg #[.int .i64 n1, .slice Ao62 l1.length co63]] (by rfl) rfl rfl (by (try simp only [List.map_toArray, List.map_cons, List.map_nil]); first | done | rfl | (simp only [List.length_drop, List.length_take]; rfl) | (simp only [iotaSS_length, iota_length]; done) | (simp only [iotaSS_length, iota_length]; rfl)) ?_
      (with_reducible refine (spec_ConjugateWord.calls Kj15 n0 _ _ l0 n1 _ _ l1 g12 g13 g14 _ ?side1 ?side2 ?side3 ?side4 Aj15).mono ?_)
      (case side1 => repeat (first | exact (Kd.R_reads' HV56.out).2.2 | (with_reducible refine Kd.C_alloc ?_ _) | (with_reducible refine Kd.C_drewN ?_ _) | (with_reducible refine Kd.C_drew ?_)))
      (case side2 => exact (Kd.R_reads' HV56.out).2.1)
      (case side3 => repeat (first | exact (Kd.R_reads' HV61.out).2.2 | (with_reducible refine Kd.C_alloc ?_ _) | (with_reducible refine Kd.C_drewN ?_ _) | (with_reducible refine Kd.C_drew ?_)))
      (case side4 => exact (Kd.R_reads' HV61.out).2.1)
      rintro e w64 ⟨v65, rfl, ho, hb⟩
      refine ⟨_, rfl, ?_⟩
      have hs := below_step (by repeat (first | (with_reducible first | exact Below.refl _ _ | apply below_alloc | apply pw_below_drewN | apply below_drew1) | exact Below.refl _ _) : Below w59.heap.size w59 _) hb
      have Lw64 := Aside0.mk (below_size hs)
      have hFo_ := HF
      have n_ := Aside0.mk (HMV.out _ _ HF.out hs)
      clear HF
      have HF := n_
      clear n_
      have n_ := Aside0.mk (Kd.R_below HV56.out hs)
      clear HV56
      have HV56 := n_
      clear n_
      have n_ := Aside0.mk (Kd.R_below HV61.out hs)
      clear HV61
      have HV61 := n_
      clear n_
      have n_ := Aside0.mk (blk_below BKgx53.out hs)
      clear BKgx53
      have BKgx53 := n_
      clear n_
      have HV66 := Aside0.mk (Kd.R_mono (Kd.R_bound ho) (fun k_ h_ => (⟨Nat.le_trans (below_size (by repeat (first | (with_reducible first | exact Below.refl _ _ | apply below_alloc | apply pw_below_drewN | apply below_drew1) | exact Below.refl _ _) : Below w59.heap.size w59 _)) h_.2.1, h_.2.2.1⟩ : w59.heap.size ≤ k_ ∧ k_ < w64.heap.size)))
      obtain ⟨Ao67, co68, rfl⟩ := Kd.R_slice HV66.out
      have n_ := Aside0.mk (Kd.R_lower HV66.out (below_size ((HUN.out _ (HMV.out _ _ hFo_.out (by repeat (first | (with_reducible first | exact Below.refl _ _ | apply below_alloc | apply pw_below_drewN | apply below_drew1) | exact Below.refl _ _) : Below w59.heap.size w59 _))).1)))
      clear HV66
      have HV66 := n_
      clear n_
      clear hs hb ho
      have hu_ := HUN.out _ HF.out
      refine hK.out _ _ ⟨(blk_cell hu_.2.1 0).trans rfl, (blk_cell hu_.2.1 1).trans rfl, (blk_cell hu_.2.2 0).trans rfl, (blk_cell hu_.2.2 1).trans rfl⟩ (fun hHeld => ?_)
      clear hK K hu_
      refine norm_ (a' := ?_) ?_ ?_
      rotate_left
      · show Act.put _ (some 32) _ = _
        simp only [Act.put, List.setIfInBounds_toArray, List.set_cons_zero, List.set_cons_succ, i64_w, i32_w]
        rfl
      refine pure_ (i := 5) (N := some 27) (v := ?_) (a' := ?_) #[true, true, true, true, true, true, false, false, true, false, false] rfl rfl (by kernel_rfl) (fun _ _ _ h => h) (Or.inl ⟨by rfl, ?_⟩) ?_ ?_
      rotate_left
      · intro w'
        go_simp
        with_reducible rfl
      rotate_left
      · simp only [Act.put, List.setIfInBounds_toArray, List.set_cons_zero, List.set_cons_succ, i64_w, i32_w]
        rfl
      refine pure_ (i := 6) (N := some 33) (v := ?_) (a' := ?_) #[true, true, true, true, true, true, true, false, true, false, false] rfl rfl (by kernel_rfl) (fun _ _ _ h => h) (Or.inl ⟨by rfl, ?_⟩) ?_ ?_
      rotate_left
      · intro w'
        go_simp
        with_reducible rfl
      rotate_left
      · simp only [Act.put, List.setIfInBounds_toArray, List.set_cons_zero, List.set_cons_succ, i64_w, i32_w]
        rfl
      refine pure_ (i := 7) (N := some 34) (v := ?_) (a' := ?_) #[true, true, true, true, true, true, true, true, true, false, false] rfl rfl (by kernel_rfl) (fun _ _ _ h => h) (Or.inl ⟨by rfl, ?_⟩) ?_ ?_
      rotate_left
      · intro w'
        go_simp
        with_reducible rfl
      rotate_left
      · simp only [Act.put, List.setIfInBounds_toArray, List.set_cons_zero, List.set_cons_succ, i64_w, i32_w]
        rfl
      have hz0 : w8.heap.size ≤ gx53 ∧ gx53 < w64.heap.size ∧ w8.heap.size ≤ w64.heap.size := (by have := Lw1.out; have := Lw2.out; have := Lw5.out; have := Lw8.out; have := Lw52.out; have := Lw54.out; have := Lw59.out; have := Lw64.out; have := GEgx53.out; have := GLgx53.out; omega)
      have hz1 : Kd.R (Kd.int .i64) 2 w64 w.heap.size (fun k_ => w8.heap.size ≤ k_ ∧ k_ < w64.heap.size ∧ k_ ≠ gx53) (.slice Ao67 g13.length co68) g13 := Kd.R_mono HV66.out (fun k_ h_ => by have := h_.1; have := h_.2; have := Lw1.out; have := Lw2.out; have := Lw5.out; have := Lw8.out; have := Lw52.out; have := Lw54.out; have := Lw59.out; have := Lw64.out; have := GEgx53.out; have := GLgx53.out; omega)
      exact norm_ (by simp only [putAll, Act.put, List.setIfInBounds_toArray, List.set_cons_zero, List.set_cons_succ]) (hCont (.slice Ao57 l0.length co58, .slice Ao62 l1.length co63, .slice Ao67 g13.length co68, gx53) _ ⟨hHeld, HF.out, hz1, BKgx53.out, hz0⟩)
  rintro ⟨v69, v70, v71, gb72⟩ w73 ⟨hS_, hF_, hR_, hbx_, hge_, hgl_, hle_⟩
  dsimp only at hS_ hR_ hbx_ hge_ hgl_
  have hu_ := HUN.out _ hF_
  clear HF HMV HUN hF_
  have HB := Aside0.mk hu_.1
  have BKgb2 := Aside0.mk hu_.2.1
  have BKgb3 := Aside0.mk hu_.2.2
  clear hu_
  clear F_
  have Lw73 := Aside0.mk hle_
  have GEgb72 := Aside0.mk hge_
  have GLgb72 := Aside0.mk hgl_
  have BKgb72 := Aside0.mk hbx_
  have H74 := Aside0.mk hR_
  clear hle_ hge_ hgl_ hbx_ hR_
  obtain ⟨Ao75, co76, rfl⟩ := Kd.R_slice H74.out
  have hHeld := hS_
  clear hS_
  refine norm_ (a' := ?_) ?_ ?_
  rotate_left
  · simp only [putAll, Act.put, List.setIfInBounds_toArray, List.set_cons_zero, List.set_cons_succ]
    rfl
  refine one_ (i := 9) (N := none) #[true, true, true, true, true, true, true, true, true, true, false] rfl rfl (by kernel_rfl) (by decide) (fun K hK => ?_)
  have hs0 : w73.cell? ⟨gb72, 0, none⟩ = some (.int .i64 0) := (blk_cell BKgb72.out 0).trans rfl
  have hs1 : w73.cell? ⟨gb72, 1, none⟩ = some (.slice none 0 0) := (blk_cell BKgb72.out 1).trans rfl
  have hf0 := blk_frozen BKgb72.out 0
  have hf1 := blk_frozen BKgb72.out 1
  refine skip_ (w1 := ((World.setCell w73 ⟨gb72, 0, none⟩ (.int .i64 g12)).setCell ⟨gb72, 1, none⟩ (.slice Ao75 g13.length co76))) (by rfl) rfl ?_ ?_
  · first | (go_simp; done) | (go_simp; rfl)
  obtain ⟨w77, hw⟩ : ∃ x_, x_ = ((World.setCell w73 ⟨gb72, 0, none⟩ (.int .i64 g12)).setCell ⟨gb72, 1, none⟩ (.slice Ao75 g13.length co76)) := ⟨_, rfl⟩
  rw [← hw]
  clear hs0 hs1 hf0 hf1
  have hk : Kept w73 w77 (fun k_ => k_ = gb72) := (by rw [hw]; exact Kept.setCell (S := fun k_ => k_ = gb72) (Kept.setCell (S := fun k_ => k_ = gb72) (Kept.refl _ _) (p := ⟨gb72, 0, none⟩) (Or.inl rfl) _) (p := ⟨gb72, 1, none⟩) (Or.inl rfl) _)
  have hc : w77.heap[gb72]? = some (.cells #[.int .i64 g12, .slice Ao75 g13.length co76] 26 (0, 0)) := (by rw [hw]; exact blk_put (blk_put BKgb72.out 0 _ rfl) 1 _ rfl)
  have hd : Below w.heap.size w w77 := (by have hb := HB.out; rw [hw]; exact below_set (below_set hb (by have := Lw1.out; have := Lw2.out; have := Lw5.out; have := Lw8.out; have := Lw73.out; have := GEgb2.out; have := GLgb2.out; have := GEgb3.out; have := GLgb3.out; have := GEgb72.out; have := GLgb72.out; omega)) (by have := Lw1.out; have := Lw2.out; have := Lw5.out; have := Lw8.out; have := Lw73.out; have := GEgb2.out; have := GLgb2.out; have := GEgb3.out; have := GLgb3.out; have := GEgb72.out; have := GLgb72.out; omega))
  have Lw77 := Aside0.mk hk.1
  have n_ := Aside0.mk (Kd.R_kept H74.out hk (fun k_ hk_ hs_ => by have := hk_.1; have := hk_.2; have := hs_; have := Lw1.out; have := Lw2.out; have := Lw5.out; have := Lw8.out; have := Lw73.out; have := GEgb2.out; have := GLgb2.out; have := GEgb3.out; have := GLgb3.out; have := GEgb72.out; have := GLgb72.out; omega))
  clear H74
  have H74 := n_
  clear n_
  have n_ := Aside0.mk (blk_kept BKgb2.out hk (fun hs_ => by have := hs_; have := Lw1.out; have := Lw2.out; have := Lw5.out; have := Lw8.out; have := Lw73.out; have := GEgb2.out; have := GLgb2.out; have := GEgb3.out; have := GLgb3.out; have := GEgb72.out; have := GLgb72.out; omega))
  clear BKgb2
  have BKgb2 := n_
  clear n_
  have n_ := Aside0.mk (blk_kept BKgb3.out hk (fun hs_ => by have := hs_; have := Lw1.out; have := Lw2.out; have := Lw5.out; have := Lw8.out; have := Lw73.out; have := GEgb2.out; have := GLgb2.out; have := GEgb3.out; have := GLgb3.out; have := GEgb72.out; have := GLgb72.out; omega))
  clear BKgb3
  have BKgb3 := n_
  clear n_
  clear BKgb72
  have BKgb72 := Aside0.mk hc
  clear HB
  have HB := Aside0.mk hd
  clear hk hc hd hw
  refine hK.out _ _ ⟨(blk_cell BKgb2.out 0).trans rfl, (blk_cell BKgb2.out 1).trans rfl, (blk_cell BKgb3.out 0).trans rfl, (blk_cell BKgb3.out 1).trans rfl⟩ (fun hHeld => ?_)
  clear hK K
  refine pure_ (i := 10) (N := some 7) (v := ?_) (a' := ?_) #[true, true, true, true, true, true, true, true, true, true, true] rfl rfl (by kernel_rfl) (fun _ _ _ h => h) (Or.inl ⟨by rfl, ?_⟩) ?_ ?_
  rotate_left
  · intro w'
    go_simp
    with_reducible rfl
  rotate_left
  · simp only [Act.put, List.setIfInBounds_toArray, List.set_cons_zero, List.set_cons_succ, i64_w, i32_w]
    rfl
  refine done_ (by kernel_rfl) ?_
  (try clear hczgb2_0 hczgb2_1 hfzgb2_0 hfzgb2_1)
  have hczgb2_0 : w77.cell? ⟨gb2, 0, none⟩ = some (.int .i64 n0) := (blk_cell BKgb2.out 0).trans rfl
  have hczgb2_1 : w77.cell? ⟨gb2, 1, none⟩ = some (.slice A0 l0.length c0) := (blk_cell BKgb2.out 1).trans rfl
  have hfzgb2_0 := blk_frozen BKgb2.out 0
  have hfzgb2_1 := blk_frozen BKgb2.out 1
  (try clear hczgb3_0 hczgb3_1 hfzgb3_0 hfzgb3_1)
  have hczgb3_0 : w77.cell? ⟨gb3, 0, none⟩ = some (.int .i64 n1) := (blk_cell BKgb3.out 0).trans rfl
  have hczgb3_1 : w77.cell? ⟨gb3, 1, none⟩ = some (.slice A1 l1.length c1) := (blk_cell BKgb3.out 1).trans rfl
  have hfzgb3_0 := blk_frozen BKgb3.out 0
  have hfzgb3_1 := blk_frozen BKgb3.out 1
  (try clear hczgb72_0 hczgb72_1 hfzgb72_0 hfzgb72_1)
  have hczgb72_0 : w77.cell? ⟨gb72, 0, none⟩ = some (.int .i64 g12) := (blk_cell BKgb72.out 0).trans rfl
  have hczgb72_1 : w77.cell? ⟨gb72, 1, none⟩ = some (.slice Ao75 g13.length co76) := (blk_cell BKgb72.out 1).trans rfl
  have hfzgb72_0 := blk_frozen BKgb72.out 0
  have hfzgb72_1 := blk_frozen BKgb72.out 1
  go_wp2_with (first | ((with_reducible refine gate_callee (f := 17) rfl ?_); refine goesL_ (some 36) rfl rfl Try.func17 (by kernel_rfl) rfl #[.agg #[.int .i64 n0, .slice A0 l0.length c0]] rfl (by (try simp only [List.map_toArray, List.map_cons, List.map_nil]); first | done | rfl | (simp only [List.length_drop, List.length_take]; rfl) | (simp only [iotaSS_length, iota_length]; done) | (simp only [iotaSS_length, iota_length]; rfl)) ?_; (with_reducible refine (laws_toBraid.calls Kj10 n0 _ _ l0 n0 l0 _ ?side1 ?side2 Aj10).mono ?_); (case side1 => first | exact HR0.out | exact Kd.C_below HR0.out (below_step HB.out ((by repeat (first | (with_reducible first | exact Below.refl _ _ | apply below_alloc | apply pw_below_drewN | apply below_drew1) | exact Below.refl _ _)) : Below w77.heap.size w77 _))); (case side2 => exact HC0.out); rintro e w79 ⟨v78, rfl, ho1, hb⟩; refine ⟨_, rfl, ?_⟩; have hs := below_step ((by repeat (first | (with_reducible first | exact Below.refl _ _ | apply below_alloc | apply pw_below_drewN | apply below_drew1) | exact Below.refl _ _)) : Below w77.heap.size w77 _) hb; have Lw79 := Aside0.mk (below_size hs); have hn1 := Aside0.mk (R_born ((by repeat (first | (with_reducible first | exact Below.refl _ _ | apply below_alloc | apply pw_below_drewN | apply below_drew1) | exact Below.refl _ _)) : Below w77.heap.size w77 _) (below_size HB.out) ho1); have n_ := Aside0.mk (Kd.R_below H74.out hs); clear H74; have H74 := n_; clear n_; have n_ := Aside0.mk (blk_below BKgb2.out hs); clear BKgb2; have BKgb2 := n_; clear n_; have n_ := Aside0.mk (blk_below BKgb3.out hs); clear BKgb3; have BKgb3 := n_; clear n_; have n_ := Aside0.mk (blk_below BKgb72.out hs); clear BKgb72; have BKgb72 := n_; clear n_; have n_ := Aside0.mk (below_step HB.out hs); clear HB; have HB := n_; clear n_; obtain ⟨Ao81, co82, rfl⟩ := Kd.R_slice hn1.out; have H80 := hn1; clear hn1; clear hs hb; clear ho1; (try clear hczgb2_0 hczgb2_1 hfzgb2_0 hfzgb2_1); have hczgb2_0 : w79.cell? ⟨gb2, 0, none⟩ = some (.int .i64 n0) := (blk_cell BKgb2.out 0).trans rfl; have hczgb2_1 : w79.cell? ⟨gb2, 1, none⟩ = some (.slice A0 l0.length c0) := (blk_cell BKgb2.out 1).trans rfl; have hfzgb2_0 := blk_frozen BKgb2.out 0; have hfzgb2_1 := blk_frozen BKgb2.out 1; (try clear hczgb3_0 hczgb3_1 hfzgb3_0 hfzgb3_1); have hczgb3_0 : w79.cell? ⟨gb3, 0, none⟩ = some (.int .i64 n1) := (blk_cell BKgb3.out 0).trans rfl; have hczgb3_1 : w79.cell? ⟨gb3, 1, none⟩ = some (.slice A1 l1.length c1) := (blk_cell BKgb3.out 1).trans rfl; have hfzgb3_0 := blk_frozen BKgb3.out 0; have hfzgb3_1 := blk_frozen BKgb3.out 1; (try clear hczgb72_0 hczgb72_1 hfzgb72_0 hfzgb72_1); have hczgb72_0 : w79.cell? ⟨gb72, 0, none⟩ = some (.int .i64 g12) := (blk_cell BKgb72.out 0).trans rfl; have hczgb72_1 : w79.cell? ⟨gb72, 1, none⟩ = some (.slice Ao75 g13.length co76) := (blk_cell BKgb72.out 1).trans rfl; have hfzgb72_0 := blk_frozen BKgb72.out 0; have hfzgb72_1 := blk_frozen BKgb72.out 1) | ((with_reducible refine gate_dst (N := 8) rfl ?_); refine box_event ?hg (N := 8) ?hd (cs := #[.int .i64 0, .slice none 0 0]) (t := 26) ?hr ?_; (case hd => rfl); (case hg => rfl); (case hr => first | (go_simp; done) | (go_simp; rfl)); intro gb8 hg w83 hbox hb; have hs := below_step ((by repeat (first | (with_reducible first | exact Below.refl _ _ | apply below_alloc | apply pw_below_drewN | apply below_drew1) | exact Below.refl _ _)) : Below w79.heap.size w79 _) hb; have Lw83 := Aside0.mk (below_size hs); have GEgb8 : Aside0 (w79.heap.size ≤ gb8) := ⟨by rw [hg]; exact below_size ((by repeat (first | (with_reducible first | exact Below.refl _ _ | apply below_alloc | apply pw_below_drewN | apply below_drew1) | exact Below.refl _ _)) : Below w79.heap.size w79 _)⟩; have GLgb8 : Aside0 (gb8 < w83.heap.size) := ⟨blk_lt hbox⟩; have n_ := Aside0.mk (Kd.R_below H74.out hs); clear H74; have H74 := n_; clear n_; have n_ := Aside0.mk (Kd.R_below H80.out hs); clear H80; have H80 := n_; clear n_; have n_ := Aside0.mk (blk_below BKgb2.out hs); clear BKgb2; have BKgb2 := n_; clear n_; have n_ := Aside0.mk (blk_below BKgb3.out hs); clear BKgb3; have BKgb3 := n_; clear n_; have n_ := Aside0.mk (blk_below BKgb72.out hs); clear BKgb72; have BKgb72 := n_; clear n_; have n_ := Aside0.mk (below_step HB.out hs); clear HB; have HB := n_; clear n_; have BKgb8 := Aside0.mk hbox; clear hbox hb hs hg; (try clear hczgb2_0 hczgb2_1 hfzgb2_0 hfzgb2_1); have hczgb2_0 : w83.cell? ⟨gb2, 0, none⟩ = some (.int .i64 n0) := (blk_cell BKgb2.out 0).trans rfl; have hczgb2_1 : w83.cell? ⟨gb2, 1, none⟩ = some (.slice A0 l0.length c0) := (blk_cell BKgb2.out 1).trans rfl; have hfzgb2_0 := blk_frozen BKgb2.out 0; have hfzgb2_1 := blk_frozen BKgb2.out 1; (try clear hczgb3_0 hczgb3_1 hfzgb3_0 hfzgb3_1); have hczgb3_0 : w83.cell? ⟨gb3, 0, none⟩ = some (.int .i64 n1) := (blk_cell BKgb3.out 0).trans rfl; have hczgb3_1 : w83.cell? ⟨gb3, 1, none⟩ = some (.slice A1 l1.length c1) := (blk_cell BKgb3.out 1).trans rfl; have hfzgb3_0 := blk_frozen BKgb3.out 0; have hfzgb3_1 := blk_frozen BKgb3.out 1; (try clear hczgb72_0 hczgb72_1 hfzgb72_0 hfzgb72_1); have hczgb72_0 : w83.cell? ⟨gb72, 0, none⟩ = some (.int .i64 g12) := (blk_cell BKgb72.out 0).trans rfl; have hczgb72_1 : w83.cell? ⟨gb72, 1, none⟩ = some (.slice Ao75 g13.length co76) := (blk_cell BKgb72.out 1).trans rfl; have hfzgb72_0 := blk_frozen BKgb72.out 0; have hfzgb72_1 := blk_frozen BKgb72.out 1; (try clear hczgb8_0 hczgb8_1 hfzgb8_0 hfzgb8_1); have hczgb8_0 : w83.cell? ⟨gb8, 0, none⟩ = some (.int .i64 0) := (blk_cell BKgb8.out 0).trans rfl; have hczgb8_1 : w83.cell? ⟨gb8, 1, none⟩ = some (.slice none 0 0) := (blk_cell BKgb8.out 1).trans rfl; have hfzgb8_0 := blk_frozen BKgb8.out 0; have hfzgb8_1 := blk_frozen BKgb8.out 1) | ((with_reducible refine gate_store (t := 26) (p := 8) rfl ?_); refine store_event (t := 26) (p := 8) (v := ?vo_w84) (w1 := ((World.setCell w83 ⟨gb8, 0, none⟩ (.int .i64 n0)).setCell ⟨gb8, 1, none⟩ (.slice Ao81 l0.length co82))) ?hg ?ho ?hn ?hr ?_; (case ho => rfl); (case hg => rfl); (case hn => rfl); (case hr => first | (go_simp; done) | (go_simp; rfl)); intro w84 hw; have hk : Kept w83 w84 (fun k_ => k_ = gb8) := (by rw [hw]; exact Kept.setCell (S := fun k_ => k_ = gb8) (Kept.setCell (S := fun k_ => k_ = gb8) (Kept.refl _ _) (p := ⟨gb8, 0, none⟩) (Or.inl rfl) _) (p := ⟨gb8, 1, none⟩) (Or.inl rfl) _); have hb := HB.out; have hc : w84.heap[gb8]? = some (.cells #[.int .i64 n0, .slice Ao81 l0.length co82] 26 (0, 0)) := (by rw [hw]; exact blk_put (blk_put BKgb8.out 0 _ rfl) 1 _ rfl); have hd : Below w.heap.size w w84 := (by rw [hw]; exact below_set (below_set hb (by have := Lw1.out; have := Lw2.out; have := Lw5.out; have := Lw8.out; have := Lw73.out; have := Lw77.out; have := Lw79.out; have := Lw83.out; have := GEgb2.out; have := GLgb2.out; have := GEgb3.out; have := GLgb3.out; have := GEgb72.out; have := GLgb72.out; have := GEgb8.out; have := GLgb8.out; omega)) (by have := Lw1.out; have := Lw2.out; have := Lw5.out; have := Lw8.out; have := Lw73.out; have := Lw77.out; have := Lw79.out; have := Lw83.out; have := GEgb2.out; have := GLgb2.out; have := GEgb3.out; have := GLgb3.out; have := GEgb72.out; have := GLgb72.out; have := GEgb8.out; have := GLgb8.out; omega)); have Lw84 := Aside0.mk hk.1; have n_ := Aside0.mk (Kd.R_kept H74.out hk (fun k_ hk_ hs_ => by have := hk_.1; have := hk_.2; have := hs_; have := Lw1.out; have := Lw2.out; have := Lw5.out; have := Lw8.out; have := Lw73.out; have := Lw77.out; have := Lw79.out; have := Lw83.out; have := GEgb2.out; have := GLgb2.out; have := GEgb3.out; have := GLgb3.out; have := GEgb72.out; have := GLgb72.out; have := GEgb8.out; have := GLgb8.out; omega)); clear H74; have H74 := n_; clear n_; have n_ := Aside0.mk (Kd.R_kept H80.out hk (fun k_ hk_ hs_ => by have := hk_.1; have := hk_.2; have := hs_; have := Lw1.out; have := Lw2.out; have := Lw5.out; have := Lw8.out; have := Lw73.out; have := Lw77.out; have := Lw79.out; have := Lw83.out; have := GEgb2.out; have := GLgb2.out; have := GEgb3.out; have := GLgb3.out; have := GEgb72.out; have := GLgb72.out; have := GEgb8.out; have := GLgb8.out; omega)); clear H80; have H80 := n_; clear n_; have n_ := Aside0.mk (blk_kept BKgb2.out hk (fun hs_ => by have := hs_; have := Lw1.out; have := Lw2.out; have := Lw5.out; have := Lw8.out; have := Lw73.out; have := Lw77.out; have := Lw79.out; have := Lw83.out; have := GEgb2.out; have := GLgb2.out; have := GEgb3.out; have := GLgb3.out; have := GEgb72.out; have := GLgb72.out; have := GEgb8.out; have := GLgb8.out; omega)); clear BKgb2; have BKgb2 := n_; clear n_; have n_ := Aside0.mk (blk_kept BKgb3.out hk (fun hs_ => by have := hs_; have := Lw1.out; have := Lw2.out; have := Lw5.out; have := Lw8.out; have := Lw73.out; have := Lw77.out; have := Lw79.out; have := Lw83.out; have := GEgb2.out; have := GLgb2.out; have := GEgb3.out; have := GLgb3.out; have := GEgb72.out; have := GLgb72.out; have := GEgb8.out; have := GLgb8.out; omega)); clear BKgb3; have BKgb3 := n_; clear n_; have n_ := Aside0.mk (blk_kept BKgb72.out hk (fun hs_ => by have := hs_; have := Lw1.out; have := Lw2.out; have := Lw5.out; have := Lw8.out; have := Lw73.out; have := Lw77.out; have := Lw79.out; have := Lw83.out; have := GEgb2.out; have := GLgb2.out; have := GEgb3.out; have := GLgb3.out; have := GEgb72.out; have := GLgb72.out; have := GEgb8.out; have := GLgb8.out; omega)); clear BKgb72; have BKgb72 := n_; clear n_; clear BKgb8; have BKgb8 := Aside0.mk hc; clear HB; have HB := Aside0.mk hd; clear hk hb hc hd hw; (try clear hczgb2_0 hczgb2_1 hfzgb2_0 hfzgb2_1); have hczgb2_0 : w84.cell? ⟨gb2, 0, none⟩ = some (.int .i64 n0) := (blk_cell BKgb2.out 0).trans rfl; have hczgb2_1 : w84.cell? ⟨gb2, 1, none⟩ = some (.slice A0 l0.length c0) := (blk_cell BKgb2.out 1).trans rfl; have hfzgb2_0 := blk_frozen BKgb2.out 0; have hfzgb2_1 := blk_frozen BKgb2.out 1; (try clear hczgb3_0 hczgb3_1 hfzgb3_0 hfzgb3_1); have hczgb3_0 : w84.cell? ⟨gb3, 0, none⟩ = some (.int .i64 n1) := (blk_cell BKgb3.out 0).trans rfl; have hczgb3_1 : w84.cell? ⟨gb3, 1, none⟩ = some (.slice A1 l1.length c1) := (blk_cell BKgb3.out 1).trans rfl; have hfzgb3_0 := blk_frozen BKgb3.out 0; have hfzgb3_1 := blk_frozen BKgb3.out 1; (try clear hczgb72_0 hczgb72_1 hfzgb72_0 hfzgb72_1); have hczgb72_0 : w84.cell? ⟨gb72, 0, none⟩ = some (.int .i64 g12) := (blk_cell BKgb72.out 0).trans rfl; have hczgb72_1 : w84.cell? ⟨gb72, 1, none⟩ = some (.slice Ao75 g13.length co76) := (blk_cell BKgb72.out 1).trans rfl; have hfzgb72_0 := blk_frozen BKgb72.out 0; have hfzgb72_1 := blk_frozen BKgb72.out 1; (try clear hczgb8_0 hczgb8_1 hfzgb8_0 hfzgb8_1); have hczgb8_0 : w84.cell? ⟨gb8, 0, none⟩ = some (.int .i64 n0) := (blk_cell BKgb8.out 0).trans rfl; have hczgb8_1 : w84.cell? ⟨gb8, 1, none⟩ = some (.slice Ao81 l0.length co82) := (blk_cell BKgb8.out 1).trans rfl; have hfzgb8_0 := blk_frozen BKgb8.out 0; have hfzgb8_1 := blk_frozen BKgb8.out 1) | ((with_reducible refine gate_callee (f := 17) rfl ?_); refine goesL_ (some 38) rfl rfl Try.func17 (by kernel_rfl) rfl #[.agg #[.int .i64 n1, .slice A1 l1.length c1]] rfl (by (try simp only [List.map_toArray, List.map_cons, List.map_nil]); first | done | rfl | (simp only [List.length_drop, List.length_take]; rfl) | (simp only [iotaSS_length, iota_length]; done) | (simp only [iotaSS_length, iota_length]; rfl)) ?_; (with_reducible refine (laws_toBraid.calls Kj11 n1 _ _ l1 n1 l1 _ ?side1 ?side2 Aj11).mono ?_); (case side1 => first | exact HR1.out | exact Kd.C_below HR1.out (below_step HB.out ((by repeat (first | (with_reducible first | exact Below.refl _ _ | apply below_alloc | apply pw_below_drewN | apply below_drew1) | exact Below.refl _ _)) : Below w84.heap.size w84 _))); (case side2 => exact HC1.out); rintro e w86 ⟨v85, rfl, ho1, hb⟩; refine ⟨_, rfl, ?_⟩; have hs := below_step ((by repeat (first | (with_reducible first | exact Below.refl _ _ | apply below_alloc | apply pw_below_drewN | apply below_drew1) | exact Below.refl _ _)) : Below w84.heap.size w84 _) hb; have Lw86 := Aside0.mk (below_size hs); have hn1 := Aside0.mk (R_born ((by repeat (first | (with_reducible first | exact Below.refl _ _ | apply below_alloc | apply pw_below_drewN | apply below_drew1) | exact Below.refl _ _)) : Below w84.heap.size w84 _) (below_size HB.out) ho1); have n_ := Aside0.mk (Kd.R_below H74.out hs); clear H74; have H74 := n_; clear n_; have n_ := Aside0.mk (Kd.R_below H80.out hs); clear H80; have H80 := n_; clear n_; have n_ := Aside0.mk (blk_below BKgb2.out hs); clear BKgb2; have BKgb2 := n_; clear n_; have n_ := Aside0.mk (blk_below BKgb3.out hs); clear BKgb3; have BKgb3 := n_; clear n_; have n_ := Aside0.mk (blk_below BKgb72.out hs); clear BKgb72; have BKgb72 := n_; clear n_; have n_ := Aside0.mk (blk_below BKgb8.out hs); clear BKgb8; have BKgb8 := n_; clear n_; have n_ := Aside0.mk (below_step HB.out hs); clear HB; have HB := n_; clear n_; obtain ⟨Ao88, co89, rfl⟩ := Kd.R_slice hn1.out; have H87 := hn1; clear hn1; clear hs hb; clear ho1; (try clear hczgb2_0 hczgb2_1 hfzgb2_0 hfzgb2_1); have hczgb2_0 : w86.cell? ⟨gb2, 0, none⟩ = some (.int .i64 n0) := (blk_cell BKgb2.out 0).trans rfl; have hczgb2_1 : w86.cell? ⟨gb2, 1, none⟩ = some (.slice A0 l0.length c0) := (blk_cell BKgb2.out 1).trans rfl; have hfzgb2_0 := blk_frozen BKgb2.out 0; have hfzgb2_1 := blk_frozen BKgb2.out 1; (try clear hczgb3_0 hczgb3_1 hfzgb3_0 hfzgb3_1); have hczgb3_0 : w86.cell? ⟨gb3, 0, none⟩ = some (.int .i64 n1) := (blk_cell BKgb3.out 0).trans rfl; have hczgb3_1 : w86.cell? ⟨gb3, 1, none⟩ = some (.slice A1 l1.length c1) := (blk_cell BKgb3.out 1).trans rfl; have hfzgb3_0 := blk_frozen BKgb3.out 0; have hfzgb3_1 := blk_frozen BKgb3.out 1; (try clear hczgb72_0 hczgb72_1 hfzgb72_0 hfzgb72_1); have hczgb72_0 : w86.cell? ⟨gb72, 0, none⟩ = some (.int .i64 g12) := (blk_cell BKgb72.out 0).trans rfl; have hczgb72_1 : w86.cell? ⟨gb72, 1, none⟩ = some (.slice Ao75 g13.length co76) := (blk_cell BKgb72.out 1).trans rfl; have hfzgb72_0 := blk_frozen BKgb72.out 0; have hfzgb72_1 := blk_frozen BKgb72.out 1; (try clear hczgb8_0 hczgb8_1 hfzgb8_0 hfzgb8_1); have hczgb8_0 : w86.cell? ⟨gb8, 0, none⟩ = some (.int .i64 n0) := (blk_cell BKgb8.out 0).trans rfl; have hczgb8_1 : w86.cell? ⟨gb8, 1, none⟩ = some (.slice Ao81 l0.length co82) := (blk_cell BKgb8.out 1).trans rfl; have hfzgb8_0 := blk_frozen BKgb8.out 0; have hfzgb8_1 := blk_frozen BKgb8.out 1) | ((with_reducible refine gate_dst (N := 9) rfl ?_); refine box_event ?hg (N := 9) ?hd (cs := #[.int .i64 0, .slice none 0 0]) (t := 26) ?hr ?_; (case hd => rfl); (case hg => rfl); (case hr => first | (go_simp; done) | (go_simp; rfl)); intro gb9 hg w90 hbox hb; have hs := below_step ((by repeat (first | (with_reducible first | exact Below.refl _ _ | apply below_alloc | apply pw_below_drewN | apply below_drew1) | exact Below.refl _ _)) : Below w86.heap.size w86 _) hb; have Lw90 := Aside0.mk (below_size hs); have GEgb9 : Aside0 (w86.heap.size ≤ gb9) := ⟨by rw [hg]; exact below_size ((by repeat (first | (with_reducible first | exact Below.refl _ _ | apply below_alloc | apply pw_below_drewN | apply below_drew1) | exact Below.refl _ _)) : Below w86.heap.size w86 _)⟩; have GLgb9 : Aside0 (gb9 < w90.heap.size) := ⟨blk_lt hbox⟩; have n_ := Aside0.mk (Kd.R_below H74.out hs); clear H74; have H74 := n_; clear n_; have n_ := Aside0.mk (Kd.R_below H80.out hs); clear H80; have H80 := n_; clear n_; have n_ := Aside0.mk (Kd.R_below H87.out hs); clear H87; have H87 := n_; clear n_; have n_ := Aside0.mk (blk_below BKgb2.out hs); clear BKgb2; have BKgb2 := n_; clear n_; have n_ := Aside0.mk (blk_below BKgb3.out hs); clear BKgb3; have BKgb3 := n_; clear n_; have n_ := Aside0.mk (blk_below BKgb72.out hs); clear BKgb72; have BKgb72 := n_; clear n_; have n_ := Aside0.mk (blk_below BKgb8.out hs); clear BKgb8; have BKgb8 := n_; clear n_; have n_ := Aside0.mk (below_step HB.out hs); clear HB; have HB := n_; clear n_; have BKgb9 := Aside0.mk hbox; clear hbox hb hs hg; (try clear hczgb2_0 hczgb2_1 hfzgb2_0 hfzgb2_1); have hczgb2_0 : w90.cell? ⟨gb2, 0, none⟩ = some (.int .i64 n0) := (blk_cell BKgb2.out 0).trans rfl; have hczgb2_1 : w90.cell? ⟨gb2, 1, none⟩ = some (.slice A0 l0.length c0) := (blk_cell BKgb2.out 1).trans rfl; have hfzgb2_0 := blk_frozen BKgb2.out 0; have hfzgb2_1 := blk_frozen BKgb2.out 1; (try clear hczgb3_0 hczgb3_1 hfzgb3_0 hfzgb3_1); have hczgb3_0 : w90.cell? ⟨gb3, 0, none⟩ = some (.int .i64 n1) := (blk_cell BKgb3.out 0).trans rfl; have hczgb3_1 : w90.cell? ⟨gb3, 1, none⟩ = some (.slice A1 l1.length c1) := (blk_cell BKgb3.out 1).trans rfl; have hfzgb3_0 := blk_frozen BKgb3.out 0; have hfzgb3_1 := blk_frozen BKgb3.out 1; (try clear hczgb72_0 hczgb72_1 hfzgb72_0 hfzgb72_1); have hczgb72_0 : w90.cell? ⟨gb72, 0, none⟩ = some (.int .i64 g12) := (blk_cell BKgb72.out 0).trans rfl; have hczgb72_1 : w90.cell? ⟨gb72, 1, none⟩ = some (.slice Ao75 g13.length co76) := (blk_cell BKgb72.out 1).trans rfl; have hfzgb72_0 := blk_frozen BKgb72.out 0; have hfzgb72_1 := blk_frozen BKgb72.out 1; (try clear hczgb8_0 hczgb8_1 hfzgb8_0 hfzgb8_1); have hczgb8_0 : w90.cell? ⟨gb8, 0, none⟩ = some (.int .i64 n0) := (blk_cell BKgb8.out 0).trans rfl; have hczgb8_1 : w90.cell? ⟨gb8, 1, none⟩ = some (.slice Ao81 l0.length co82) := (blk_cell BKgb8.out 1).trans rfl; have hfzgb8_0 := blk_frozen BKgb8.out 0; have hfzgb8_1 := blk_frozen BKgb8.out 1; (try clear hczgb9_0 hczgb9_1 hfzgb9_0 hfzgb9_1); have hczgb9_0 : w90.cell? ⟨gb9, 0, none⟩ = some (.int .i64 0) := (blk_cell BKgb9.out 0).trans rfl; have hczgb9_1 : w90.cell? ⟨gb9, 1, none⟩ = some (.slice none 0 0) := (blk_cell BKgb9.out 1).trans rfl; have hfzgb9_0 := blk_frozen BKgb9.out 0; have hfzgb9_1 := blk_frozen BKgb9.out 1) | ((with_reducible refine gate_store (t := 26) (p := 9) rfl ?_); refine store_event (t := 26) (p := 9) (v := ?vo_w91) (w1 := ((World.setCell w90 ⟨gb9, 0, none⟩ (.int .i64 n1)).setCell ⟨gb9, 1, none⟩ (.slice Ao88 l1.length co89))) ?hg ?ho ?hn ?hr ?_; (case ho => rfl); (case hg => rfl); (case hn => rfl); (case hr => first | (go_simp; done) | (go_simp; rfl)); intro w91 hw; have hk : Kept w90 w91 (fun k_ => k_ = gb9) := (by rw [hw]; exact Kept.setCell (S := fun k_ => k_ = gb9) (Kept.setCell (S := fun k_ => k_ = gb9) (Kept.refl _ _) (p := ⟨gb9, 0, none⟩) (Or.inl rfl) _) (p := ⟨gb9, 1, none⟩) (Or.inl rfl) _); have hb := HB.out; have hc : w91.heap[gb9]? = some (.cells #[.int .i64 n1, .slice Ao88 l1.length co89] 26 (0, 0)) := (by rw [hw]; exact blk_put (blk_put BKgb9.out 0 _ rfl) 1 _ rfl); have hd : Below w.heap.size w w91 := (by rw [hw]; exact below_set (below_set hb (by have := Lw1.out; have := Lw2.out; have := Lw5.out; have := Lw8.out; have := Lw73.out; have := Lw77.out; have := Lw79.out; have := Lw83.out; have := Lw84.out; have := Lw86.out; have := Lw90.out; have := GEgb2.out; have := GLgb2.out; have := GEgb3.out; have := GLgb3.out; have := GEgb72.out; have := GLgb72.out; have := GEgb8.out; have := GLgb8.out; have := GEgb9.out; have := GLgb9.out; omega)) (by have := Lw1.out; have := Lw2.out; have := Lw5.out; have := Lw8.out; have := Lw73.out; have := Lw77.out; have := Lw79.out; have := Lw83.out; have := Lw84.out; have := Lw86.out; have := Lw90.out; have := GEgb2.out; have := GLgb2.out; have := GEgb3.out; have := GLgb3.out; have := GEgb72.out; have := GLgb72.out; have := GEgb8.out; have := GLgb8.out; have := GEgb9.out; have := GLgb9.out; omega)); have Lw91 := Aside0.mk hk.1; have n_ := Aside0.mk (Kd.R_kept H74.out hk (fun k_ hk_ hs_ => by have := hk_.1; have := hk_.2; have := hs_; have := Lw1.out; have := Lw2.out; have := Lw5.out; have := Lw8.out; have := Lw73.out; have := Lw77.out; have := Lw79.out; have := Lw83.out; have := Lw84.out; have := Lw86.out; have := Lw90.out; have := GEgb2.out; have := GLgb2.out; have := GEgb3.out; have := GLgb3.out; have := GEgb72.out; have := GLgb72.out; have := GEgb8.out; have := GLgb8.out; have := GEgb9.out; have := GLgb9.out; omega)); clear H74; have H74 := n_; clear n_; have n_ := Aside0.mk (Kd.R_kept H80.out hk (fun k_ hk_ hs_ => by have := hk_.1; have := hk_.2; have := hs_; have := Lw1.out; have := Lw2.out; have := Lw5.out; have := Lw8.out; have := Lw73.out; have := Lw77.out; have := Lw79.out; have := Lw83.out; have := Lw84.out; have := Lw86.out; have := Lw90.out; have := GEgb2.out; have := GLgb2.out; have := GEgb3.out; have := GLgb3.out; have := GEgb72.out; have := GLgb72.out; have := GEgb8.out; have := GLgb8.out; have := GEgb9.out; have := GLgb9.out; omega)); clear H80; have H80 := n_; clear n_; have n_ := Aside0.mk (Kd.R_kept H87.out hk (fun k_ hk_ hs_ => by have := hk_.1; have := hk_.2; have := hs_; have := Lw1.out; have := Lw2.out; have := Lw5.out; have := Lw8.out; have := Lw73.out; have := Lw77.out; have := Lw79.out; have := Lw83.out; have := Lw84.out; have := Lw86.out; have := Lw90.out; have := GEgb2.out; have := GLgb2.out; have := GEgb3.out; have := GLgb3.out; have := GEgb72.out; have := GLgb72.out; have := GEgb8.out; have := GLgb8.out; have := GEgb9.out; have := GLgb9.out; omega)); clear H87; have H87 := n_; clear n_; have n_ := Aside0.mk (blk_kept BKgb2.out hk (fun hs_ => by have := hs_; have := Lw1.out; have := Lw2.out; have := Lw5.out; have := Lw8.out; have := Lw73.out; have := Lw77.out; have := Lw79.out; have := Lw83.out; have := Lw84.out; have := Lw86.out; have := Lw90.out; have := GEgb2.out; have := GLgb2.out; have := GEgb3.out; have := GLgb3.out; have := GEgb72.out; have := GLgb72.out; have := GEgb8.out; have := GLgb8.out; have := GEgb9.out; have := GLgb9.out; omega)); clear BKgb2; have BKgb2 := n_; clear n_; have n_ := Aside0.mk (blk_kept BKgb3.out hk (fun hs_ => by have := hs_; have := Lw1.out; have := Lw2.out; have := Lw5.out; have := Lw8.out; have := Lw73.out; have := Lw77.out; have := Lw79.out; have := Lw83.out; have := Lw84.out; have := Lw86.out; have := Lw90.out; have := GEgb2.out; have := GLgb2.out; have := GEgb3.out; have := GLgb3.out; have := GEgb72.out; have := GLgb72.out; have := GEgb8.out; have := GLgb8.out; have := GEgb9.out; have := GLgb9.out; omega)); clear BKgb3; have BKgb3 := n_; clear n_; have n_ := Aside0.mk (blk_kept BKgb72.out hk (fun hs_ => by have := hs_; have := Lw1.out; have := Lw2.out; have := Lw5.out; have := Lw8.out; have := Lw73.out; have := Lw77.out; have := Lw79.out; have := Lw83.out; have := Lw84.out; have := Lw86.out; have := Lw90.out; have := GEgb2.out; have := GLgb2.out; have := GEgb3.out; have := GLgb3.out; have := GEgb72.out; have := GLgb72.out; have := GEgb8.out; have := GLgb8.out; have := GEgb9.out; have := GLgb9.out; omega)); clear BKgb72; have BKgb72 := n_; clear n_; have n_ := Aside0.mk (blk_kept BKgb8.out hk (fun hs_ => by have := hs_; have := Lw1.out; have := Lw2.out; have := Lw5.out; have := Lw8.out; have := Lw73.out; have := Lw77.out; have := Lw79.out; have := Lw83.out; have := Lw84.out; have := Lw86.out; have := Lw90.out; have := GEgb2.out; have := GLgb2.out; have := GEgb3.out; have := GLgb3.out; have := GEgb72.out; have := GLgb72.out; have := GEgb8.out; have := GLgb8.out; have := GEgb9.out; have := GLgb9.out; omega)); clear BKgb8; have BKgb8 := n_; clear n_; clear BKgb9; have BKgb9 := Aside0.mk hc; clear HB; have HB := Aside0.mk hd; clear hk hb hc hd hw; (try clear hczgb2_0 hczgb2_1 hfzgb2_0 hfzgb2_1); have hczgb2_0 : w91.cell? ⟨gb2, 0, none⟩ = some (.int .i64 n0) := (blk_cell BKgb2.out 0).trans rfl; have hczgb2_1 : w91.cell? ⟨gb2, 1, none⟩ = some (.slice A0 l0.length c0) := (blk_cell BKgb2.out 1).trans rfl; have hfzgb2_0 := blk_frozen BKgb2.out 0; have hfzgb2_1 := blk_frozen BKgb2.out 1; (try clear hczgb3_0 hczgb3_1 hfzgb3_0 hfzgb3_1); have hczgb3_0 : w91.cell? ⟨gb3, 0, none⟩ = some (.int .i64 n1) := (blk_cell BKgb3.out 0).trans rfl; have hczgb3_1 : w91.cell? ⟨gb3, 1, none⟩ = some (.slice A1 l1.length c1) := (blk_cell BKgb3.out 1).trans rfl; have hfzgb3_0 := blk_frozen BKgb3.out 0; have hfzgb3_1 := blk_frozen BKgb3.out 1; (try clear hczgb72_0 hczgb72_1 hfzgb72_0 hfzgb72_1); have hczgb72_0 : w91.cell? ⟨gb72, 0, none⟩ = some (.int .i64 g12) := (blk_cell BKgb72.out 0).trans rfl; have hczgb72_1 : w91.cell? ⟨gb72, 1, none⟩ = some (.slice Ao75 g13.length co76) := (blk_cell BKgb72.out 1).trans rfl; have hfzgb72_0 := blk_frozen BKgb72.out 0; have hfzgb72_1 := blk_frozen BKgb72.out 1; (try clear hczgb8_0 hczgb8_1 hfzgb8_0 hfzgb8_1); have hczgb8_0 : w91.cell? ⟨gb8, 0, none⟩ = some (.int .i64 n0) := (blk_cell BKgb8.out 0).trans rfl; have hczgb8_1 : w91.cell? ⟨gb8, 1, none⟩ = some (.slice Ao81 l0.length co82) := (blk_cell BKgb8.out 1).trans rfl; have hfzgb8_0 := blk_frozen BKgb8.out 0; have hfzgb8_1 := blk_frozen BKgb8.out 1; (try clear hczgb9_0 hczgb9_1 hfzgb9_0 hfzgb9_1); have hczgb9_0 : w91.cell? ⟨gb9, 0, none⟩ = some (.int .i64 n1) := (blk_cell BKgb9.out 0).trans rfl; have hczgb9_1 : w91.cell? ⟨gb9, 1, none⟩ = some (.slice Ao88 l1.length co89) := (blk_cell BKgb9.out 1).trans rfl; have hfzgb9_0 := blk_frozen BKgb9.out 0; have hfzgb9_1 := blk_frozen BKgb9.out 1) | ((with_reducible refine gate_callee (f := 18) rfl ?_); refine goesL_ (some 42) rfl rfl Try.func18 (by kernel_rfl) rfl #[.agg #[.int .i64 n0, .slice Ao81 l0.length co82], .agg #[.int .i64 n1, .slice Ao88 l1.length co89]] rfl (by (try simp only [List.map_toArray, List.map_cons, List.map_nil]); first | done | rfl | (simp only [List.length_drop, List.length_take]; rfl) | (simp only [iotaSS_length, iota_length]; done) | (simp only [iotaSS_length, iota_length]; rfl)) ?_; (with_reducible refine (impl_ConjugateWord.calls Kj92 n0 _ _ l0 n1 _ _ l1 g12 g13 g14 _ ?side1 ?side2 ?side3 ?side4 Aj92).mono ?_); (case side1 => repeat (first | exact (Kd.R_reads' H80.out).2.2 | (with_reducible refine Kd.C_alloc ?_ _) | (with_reducible refine Kd.C_drewN ?_ _) | (with_reducible refine Kd.C_drew ?_))); (case side2 => exact (Kd.R_reads' H80.out).2.1); (case side3 => repeat (first | exact (Kd.R_reads' H87.out).2.2 | (with_reducible refine Kd.C_alloc ?_ _) | (with_reducible refine Kd.C_drewN ?_ _) | (with_reducible refine Kd.C_drew ?_))); (case side4 => exact (Kd.R_reads' H87.out).2.1); rintro e w94 ⟨v93, rfl, ho1, hb⟩; refine ⟨_, rfl, ?_⟩; have hs := below_step ((by repeat (first | (with_reducible first | exact Below.refl _ _ | apply below_alloc | apply pw_below_drewN | apply below_drew1) | exact Below.refl _ _)) : Below w91.heap.size w91 _) hb; have Lw94 := Aside0.mk (below_size hs); have hn1 := Aside0.mk (R_born ((by repeat (first | (with_reducible first | exact Below.refl _ _ | apply below_alloc | apply pw_below_drewN | apply below_drew1) | exact Below.refl _ _)) : Below w91.heap.size w91 _) (below_size HB.out) ho1); have n_ := Aside0.mk (Kd.R_below H74.out hs); clear H74; have H74 := n_; clear n_; have n_ := Aside0.mk (Kd.R_below H80.out hs); clear H80; have H80 := n_; clear n_; have n_ := Aside0.mk (Kd.R_below H87.out hs); clear H87; have H87 := n_; clear n_; have n_ := Aside0.mk (blk_below BKgb2.out hs); clear BKgb2; have BKgb2 := n_; clear n_; have n_ := Aside0.mk (blk_below BKgb3.out hs); clear BKgb3; have BKgb3 := n_; clear n_; have n_ := Aside0.mk (blk_below BKgb72.out hs); clear BKgb72; have BKgb72 := n_; clear n_; have n_ := Aside0.mk (blk_below BKgb8.out hs); clear BKgb8; have BKgb8 := n_; clear n_; have n_ := Aside0.mk (blk_below BKgb9.out hs); clear BKgb9; have BKgb9 := n_; clear n_; have n_ := Aside0.mk (below_step HB.out hs); clear HB; have HB := n_; clear n_; obtain ⟨Ao96, co97, rfl⟩ := Kd.R_slice hn1.out; have H95 := hn1; clear hn1; clear hs hb; clear ho1; (try clear hczgb2_0 hczgb2_1 hfzgb2_0 hfzgb2_1); have hczgb2_0 : w94.cell? ⟨gb2, 0, none⟩ = some (.int .i64 n0) := (blk_cell BKgb2.out 0).trans rfl; have hczgb2_1 : w94.cell? ⟨gb2, 1, none⟩ = some (.slice A0 l0.length c0) := (blk_cell BKgb2.out 1).trans rfl; have hfzgb2_0 := blk_frozen BKgb2.out 0; have hfzgb2_1 := blk_frozen BKgb2.out 1; (try clear hczgb3_0 hczgb3_1 hfzgb3_0 hfzgb3_1); have hczgb3_0 : w94.cell? ⟨gb3, 0, none⟩ = some (.int .i64 n1) := (blk_cell BKgb3.out 0).trans rfl; have hczgb3_1 : w94.cell? ⟨gb3, 1, none⟩ = some (.slice A1 l1.length c1) := (blk_cell BKgb3.out 1).trans rfl; have hfzgb3_0 := blk_frozen BKgb3.out 0; have hfzgb3_1 := blk_frozen BKgb3.out 1; (try clear hczgb72_0 hczgb72_1 hfzgb72_0 hfzgb72_1); have hczgb72_0 : w94.cell? ⟨gb72, 0, none⟩ = some (.int .i64 g12) := (blk_cell BKgb72.out 0).trans rfl; have hczgb72_1 : w94.cell? ⟨gb72, 1, none⟩ = some (.slice Ao75 g13.length co76) := (blk_cell BKgb72.out 1).trans rfl; have hfzgb72_0 := blk_frozen BKgb72.out 0; have hfzgb72_1 := blk_frozen BKgb72.out 1; (try clear hczgb8_0 hczgb8_1 hfzgb8_0 hfzgb8_1); have hczgb8_0 : w94.cell? ⟨gb8, 0, none⟩ = some (.int .i64 n0) := (blk_cell BKgb8.out 0).trans rfl; have hczgb8_1 : w94.cell? ⟨gb8, 1, none⟩ = some (.slice Ao81 l0.length co82) := (blk_cell BKgb8.out 1).trans rfl; have hfzgb8_0 := blk_frozen BKgb8.out 0; have hfzgb8_1 := blk_frozen BKgb8.out 1; (try clear hczgb9_0 hczgb9_1 hfzgb9_0 hfzgb9_1); have hczgb9_0 : w94.cell? ⟨gb9, 0, none⟩ = some (.int .i64 n1) := (blk_cell BKgb9.out 0).trans rfl; have hczgb9_1 : w94.cell? ⟨gb9, 1, none⟩ = some (.slice Ao88 l1.length co89) := (blk_cell BKgb9.out 1).trans rfl; have hfzgb9_0 := blk_frozen BKgb9.out 0; have hfzgb9_1 := blk_frozen BKgb9.out 1) | ((with_reducible refine gate_dst (N := 10) rfl ?_); refine box_event ?hg (N := 10) ?hd (cs := #[.int .i64 0, .slice none 0 0]) (t := 26) ?hr ?_; (case hd => rfl); (case hg => rfl); (case hr => first | (go_simp; done) | (go_simp; rfl)); intro gb10 hg w98 hbox hb; have hs := below_step ((by repeat (first | (with_reducible first | exact Below.refl _ _ | apply below_alloc | apply pw_below_drewN | apply below_drew1) | exact Below.refl _ _)) : Below w94.heap.size w94 _) hb; have Lw98 := Aside0.mk (below_size hs); have GEgb10 : Aside0 (w94.heap.size ≤ gb10) := ⟨by rw [hg]; exact below_size ((by repeat (first | (with_reducible first | exact Below.refl _ _ | apply below_alloc | apply pw_below_drewN | apply below_drew1) | exact Below.refl _ _)) : Below w94.heap.size w94 _)⟩; have GLgb10 : Aside0 (gb10 < w98.heap.size) := ⟨blk_lt hbox⟩; have n_ := Aside0.mk (Kd.R_below H74.out hs); clear H74; have H74 := n_; clear n_; have n_ := Aside0.mk (Kd.R_below H80.out hs); clear H80; have H80 := n_; clear n_; have n_ := Aside0.mk (Kd.R_below H87.out hs); clear H87; have H87 := n_; clear n_; have n_ := Aside0.mk (Kd.R_below H95.out hs); clear H95; have H95 := n_; clear n_; have n_ := Aside0.mk (blk_below BKgb2.out hs); clear BKgb2; have BKgb2 := n_; clear n_; have n_ := Aside0.mk (blk_below BKgb3.out hs); clear BKgb3; have BKgb3 := n_; clear n_; have n_ := Aside0.mk (blk_below BKgb72.out hs); clear BKgb72; have BKgb72 := n_; clear n_; have n_ := Aside0.mk (blk_below BKgb8.out hs); clear BKgb8; have BKgb8 := n_; clear n_; have n_ := Aside0.mk (blk_below BKgb9.out hs); clear BKgb9; have BKgb9 := n_; clear n_; have n_ := Aside0.mk (below_step HB.out hs); clear HB; have HB := n_; clear n_; have BKgb10 := Aside0.mk hbox; clear hbox hb hs hg; (try clear hczgb2_0 hczgb2_1 hfzgb2_0 hfzgb2_1); have hczgb2_0 : w98.cell? ⟨gb2, 0, none⟩ = some (.int .i64 n0) := (blk_cell BKgb2.out 0).trans rfl; have hczgb2_1 : w98.cell? ⟨gb2, 1, none⟩ = some (.slice A0 l0.length c0) := (blk_cell BKgb2.out 1).trans rfl; have hfzgb2_0 := blk_frozen BKgb2.out 0; have hfzgb2_1 := blk_frozen BKgb2.out 1; (try clear hczgb3_0 hczgb3_1 hfzgb3_0 hfzgb3_1); have hczgb3_0 : w98.cell? ⟨gb3, 0, none⟩ = some (.int .i64 n1) := (blk_cell BKgb3.out 0).trans rfl; have hczgb3_1 : w98.cell? ⟨gb3, 1, none⟩ = some (.slice A1 l1.length c1) := (blk_cell BKgb3.out 1).trans rfl; have hfzgb3_0 := blk_frozen BKgb3.out 0; have hfzgb3_1 := blk_frozen BKgb3.out 1; (try clear hczgb72_0 hczgb72_1 hfzgb72_0 hfzgb72_1); have hczgb72_0 : w98.cell? ⟨gb72, 0, none⟩ = some (.int .i64 g12) := (blk_cell BKgb72.out 0).trans rfl; have hczgb72_1 : w98.cell? ⟨gb72, 1, none⟩ = some (.slice Ao75 g13.length co76) := (blk_cell BKgb72.out 1).trans rfl; have hfzgb72_0 := blk_frozen BKgb72.out 0; have hfzgb72_1 := blk_frozen BKgb72.out 1; (try clear hczgb8_0 hczgb8_1 hfzgb8_0 hfzgb8_1); have hczgb8_0 : w98.cell? ⟨gb8, 0, none⟩ = some (.int .i64 n0) := (blk_cell BKgb8.out 0).trans rfl; have hczgb8_1 : w98.cell? ⟨gb8, 1, none⟩ = some (.slice Ao81 l0.length co82) := (blk_cell BKgb8.out 1).trans rfl; have hfzgb8_0 := blk_frozen BKgb8.out 0; have hfzgb8_1 := blk_frozen BKgb8.out 1; (try clear hczgb9_0 hczgb9_1 hfzgb9_0 hfzgb9_1); have hczgb9_0 : w98.cell? ⟨gb9, 0, none⟩ = some (.int .i64 n1) := (blk_cell BKgb9.out 0).trans rfl; have hczgb9_1 : w98.cell? ⟨gb9, 1, none⟩ = some (.slice Ao88 l1.length co89) := (blk_cell BKgb9.out 1).trans rfl; have hfzgb9_0 := blk_frozen BKgb9.out 0; have hfzgb9_1 := blk_frozen BKgb9.out 1; (try clear hczgb10_0 hczgb10_1 hfzgb10_0 hfzgb10_1); have hczgb10_0 : w98.cell? ⟨gb10, 0, none⟩ = some (.int .i64 0) := (blk_cell BKgb10.out 0).trans rfl; have hczgb10_1 : w98.cell? ⟨gb10, 1, none⟩ = some (.slice none 0 0) := (blk_cell BKgb10.out 1).trans rfl; have hfzgb10_0 := blk_frozen BKgb10.out 0; have hfzgb10_1 := blk_frozen BKgb10.out 1) | ((with_reducible refine gate_store (t := 26) (p := 10) rfl ?_); refine store_event (t := 26) (p := 10) (v := ?vo_w99) (w1 := ((World.setCell w98 ⟨gb10, 0, none⟩ (.int .i64 g12)).setCell ⟨gb10, 1, none⟩ (.slice Ao96 g13.length co97))) ?hg ?ho ?hn ?hr ?_; (case ho => rfl); (case hg => rfl); (case hn => rfl); (case hr => first | (go_simp; done) | (go_simp; rfl)); intro w99 hw; have hk : Kept w98 w99 (fun k_ => k_ = gb10) := (by rw [hw]; exact Kept.setCell (S := fun k_ => k_ = gb10) (Kept.setCell (S := fun k_ => k_ = gb10) (Kept.refl _ _) (p := ⟨gb10, 0, none⟩) (Or.inl rfl) _) (p := ⟨gb10, 1, none⟩) (Or.inl rfl) _); have hb := HB.out; have hc : w99.heap[gb10]? = some (.cells #[.int .i64 g12, .slice Ao96 g13.length co97] 26 (0, 0)) := (by rw [hw]; exact blk_put (blk_put BKgb10.out 0 _ rfl) 1 _ rfl); have hd : Below w.heap.size w w99 := (by rw [hw]; exact below_set (below_set hb (by have := Lw1.out; have := Lw2.out; have := Lw5.out; have := Lw8.out; have := Lw73.out; have := Lw77.out; have := Lw79.out; have := Lw83.out; have := Lw84.out; have := Lw86.out; have := Lw90.out; have := Lw91.out; have := Lw94.out; have := Lw98.out; have := GEgb2.out; have := GLgb2.out; have := GEgb3.out; have := GLgb3.out; have := GEgb72.out; have := GLgb72.out; have := GEgb8.out; have := GLgb8.out; have := GEgb9.out; have := GLgb9.out; have := GEgb10.out; have := GLgb10.out; omega)) (by have := Lw1.out; have := Lw2.out; have := Lw5.out; have := Lw8.out; have := Lw73.out; have := Lw77.out; have := Lw79.out; have := Lw83.out; have := Lw84.out; have := Lw86.out; have := Lw90.out; have := Lw91.out; have := Lw94.out; have := Lw98.out; have := GEgb2.out; have := GLgb2.out; have := GEgb3.out; have := GLgb3.out; have := GEgb72.out; have := GLgb72.out; have := GEgb8.out; have := GLgb8.out; have := GEgb9.out; have := GLgb9.out; have := GEgb10.out; have := GLgb10.out; omega)); have Lw99 := Aside0.mk hk.1; have n_ := Aside0.mk (Kd.R_kept H74.out hk (fun k_ hk_ hs_ => by have := hk_.1; have := hk_.2; have := hs_; have := Lw1.out; have := Lw2.out; have := Lw5.out; have := Lw8.out; have := Lw73.out; have := Lw77.out; have := Lw79.out; have := Lw83.out; have := Lw84.out; have := Lw86.out; have := Lw90.out; have := Lw91.out; have := Lw94.out; have := Lw98.out; have := GEgb2.out; have := GLgb2.out; have := GEgb3.out; have := GLgb3.out; have := GEgb72.out; have := GLgb72.out; have := GEgb8.out; have := GLgb8.out; have := GEgb9.out; have := GLgb9.out; have := GEgb10.out; have := GLgb10.out; omega)); clear H74; have H74 := n_; clear n_; have n_ := Aside0.mk (Kd.R_kept H80.out hk (fun k_ hk_ hs_ => by have := hk_.1; have := hk_.2; have := hs_; have := Lw1.out; have := Lw2.out; have := Lw5.out; have := Lw8.out; have := Lw73.out; have := Lw77.out; have := Lw79.out; have := Lw83.out; have := Lw84.out; have := Lw86.out; have := Lw90.out; have := Lw91.out; have := Lw94.out; have := Lw98.out; have := GEgb2.out; have := GLgb2.out; have := GEgb3.out; have := GLgb3.out; have := GEgb72.out; have := GLgb72.out; have := GEgb8.out; have := GLgb8.out; have := GEgb9.out; have := GLgb9.out; have := GEgb10.out; have := GLgb10.out; omega)); clear H80; have H80 := n_; clear n_; have n_ := Aside0.mk (Kd.R_kept H87.out hk (fun k_ hk_ hs_ => by have := hk_.1; have := hk_.2; have := hs_; have := Lw1.out; have := Lw2.out; have := Lw5.out; have := Lw8.out; have := Lw73.out; have := Lw77.out; have := Lw79.out; have := Lw83.out; have := Lw84.out; have := Lw86.out; have := Lw90.out; have := Lw91.out; have := Lw94.out; have := Lw98.out; have := GEgb2.out; have := GLgb2.out; have := GEgb3.out; have := GLgb3.out; have := GEgb72.out; have := GLgb72.out; have := GEgb8.out; have := GLgb8.out; have := GEgb9.out; have := GLgb9.out; have := GEgb10.out; have := GLgb10.out; omega)); clear H87; have H87 := n_; clear n_; have n_ := Aside0.mk (Kd.R_kept H95.out hk (fun k_ hk_ hs_ => by have := hk_.1; have := hk_.2; have := hs_; have := Lw1.out; have := Lw2.out; have := Lw5.out; have := Lw8.out; have := Lw73.out; have := Lw77.out; have := Lw79.out; have := Lw83.out; have := Lw84.out; have := Lw86.out; have := Lw90.out; have := Lw91.out; have := Lw94.out; have := Lw98.out; have := GEgb2.out; have := GLgb2.out; have := GEgb3.out; have := GLgb3.out; have := GEgb72.out; have := GLgb72.out; have := GEgb8.out; have := GLgb8.out; have := GEgb9.out; have := GLgb9.out; have := GEgb10.out; have := GLgb10.out; omega)); clear H95; have H95 := n_; clear n_; have n_ := Aside0.mk (blk_kept BKgb2.out hk (fun hs_ => by have := hs_; have := Lw1.out; have := Lw2.out; have := Lw5.out; have := Lw8.out; have := Lw73.out; have := Lw77.out; have := Lw79.out; have := Lw83.out; have := Lw84.out; have := Lw86.out; have := Lw90.out; have := Lw91.out; have := Lw94.out; have := Lw98.out; have := GEgb2.out; have := GLgb2.out; have := GEgb3.out; have := GLgb3.out; have := GEgb72.out; have := GLgb72.out; have := GEgb8.out; have := GLgb8.out; have := GEgb9.out; have := GLgb9.out; have := GEgb10.out; have := GLgb10.out; omega)); clear BKgb2; have BKgb2 := n_; clear n_; have n_ := Aside0.mk (blk_kept BKgb3.out hk (fun hs_ => by have := hs_; have := Lw1.out; have := Lw2.out; have := Lw5.out; have := Lw8.out; have := Lw73.out; have := Lw77.out; have := Lw79.out; have := Lw83.out; have := Lw84.out; have := Lw86.out; have := Lw90.out; have := Lw91.out; have := Lw94.out; have := Lw98.out; have := GEgb2.out; have := GLgb2.out; have := GEgb3.out; have := GLgb3.out; have := GEgb72.out; have := GLgb72.out; have := GEgb8.out; have := GLgb8.out; have := GEgb9.out; have := GLgb9.out; have := GEgb10.out; have := GLgb10.out; omega)); clear BKgb3; have BKgb3 := n_; clear n_; have n_ := Aside0.mk (blk_kept BKgb72.out hk (fun hs_ => by have := hs_; have := Lw1.out; have := Lw2.out; have := Lw5.out; have := Lw8.out; have := Lw73.out; have := Lw77.out; have := Lw79.out; have := Lw83.out; have := Lw84.out; have := Lw86.out; have := Lw90.out; have := Lw91.out; have := Lw94.out; have := Lw98.out; have := GEgb2.out; have := GLgb2.out; have := GEgb3.out; have := GLgb3.out; have := GEgb72.out; have := GLgb72.out; have := GEgb8.out; have := GLgb8.out; have := GEgb9.out; have := GLgb9.out; have := GEgb10.out; have := GLgb10.out; omega)); clear BKgb72; have BKgb72 := n_; clear n_; have n_ := Aside0.mk (blk_kept BKgb8.out hk (fun hs_ => by have := hs_; have := Lw1.out; have := Lw2.out; have := Lw5.out; have := Lw8.out; have := Lw73.out; have := Lw77.out; have := Lw79.out; have := Lw83.out; have := Lw84.out; have := Lw86.out; have := Lw90.out; have := Lw91.out; have := Lw94.out; have := Lw98.out; have := GEgb2.out; have := GLgb2.out; have := GEgb3.out; have := GLgb3.out; have := GEgb72.out; have := GLgb72.out; have := GEgb8.out; have := GLgb8.out; have := GEgb9.out; have := GLgb9.out; have := GEgb10.out; have := GLgb10.out; omega)); clear BKgb8; have BKgb8 := n_; clear n_; have n_ := Aside0.mk (blk_kept BKgb9.out hk (fun hs_ => by have := hs_; have := Lw1.out; have := Lw2.out; have := Lw5.out; have := Lw8.out; have := Lw73.out; have := Lw77.out; have := Lw79.out; have := Lw83.out; have := Lw84.out; have := Lw86.out; have := Lw90.out; have := Lw91.out; have := Lw94.out; have := Lw98.out; have := GEgb2.out; have := GLgb2.out; have := GEgb3.out; have := GLgb3.out; have := GEgb72.out; have := GLgb72.out; have := GEgb8.out; have := GLgb8.out; have := GEgb9.out; have := GLgb9.out; have := GEgb10.out; have := GLgb10.out; omega)); clear BKgb9; have BKgb9 := n_; clear n_; clear BKgb10; have BKgb10 := Aside0.mk hc; clear HB; have HB := Aside0.mk hd; clear hk hb hc hd hw; (try clear hczgb2_0 hczgb2_1 hfzgb2_0 hfzgb2_1); have hczgb2_0 : w99.cell? ⟨gb2, 0, none⟩ = some (.int .i64 n0) := (blk_cell BKgb2.out 0).trans rfl; have hczgb2_1 : w99.cell? ⟨gb2, 1, none⟩ = some (.slice A0 l0.length c0) := (blk_cell BKgb2.out 1).trans rfl; have hfzgb2_0 := blk_frozen BKgb2.out 0; have hfzgb2_1 := blk_frozen BKgb2.out 1; (try clear hczgb3_0 hczgb3_1 hfzgb3_0 hfzgb3_1); have hczgb3_0 : w99.cell? ⟨gb3, 0, none⟩ = some (.int .i64 n1) := (blk_cell BKgb3.out 0).trans rfl; have hczgb3_1 : w99.cell? ⟨gb3, 1, none⟩ = some (.slice A1 l1.length c1) := (blk_cell BKgb3.out 1).trans rfl; have hfzgb3_0 := blk_frozen BKgb3.out 0; have hfzgb3_1 := blk_frozen BKgb3.out 1; (try clear hczgb72_0 hczgb72_1 hfzgb72_0 hfzgb72_1); have hczgb72_0 : w99.cell? ⟨gb72, 0, none⟩ = some (.int .i64 g12) := (blk_cell BKgb72.out 0).trans rfl; have hczgb72_1 : w99.cell? ⟨gb72, 1, none⟩ = some (.slice Ao75 g13.length co76) := (blk_cell BKgb72.out 1).trans rfl; have hfzgb72_0 := blk_frozen BKgb72.out 0; have hfzgb72_1 := blk_frozen BKgb72.out 1; (try clear hczgb8_0 hczgb8_1 hfzgb8_0 hfzgb8_1); have hczgb8_0 : w99.cell? ⟨gb8, 0, none⟩ = some (.int .i64 n0) := (blk_cell BKgb8.out 0).trans rfl; have hczgb8_1 : w99.cell? ⟨gb8, 1, none⟩ = some (.slice Ao81 l0.length co82) := (blk_cell BKgb8.out 1).trans rfl; have hfzgb8_0 := blk_frozen BKgb8.out 0; have hfzgb8_1 := blk_frozen BKgb8.out 1; (try clear hczgb9_0 hczgb9_1 hfzgb9_0 hfzgb9_1); have hczgb9_0 : w99.cell? ⟨gb9, 0, none⟩ = some (.int .i64 n1) := (blk_cell BKgb9.out 0).trans rfl; have hczgb9_1 : w99.cell? ⟨gb9, 1, none⟩ = some (.slice Ao88 l1.length co89) := (blk_cell BKgb9.out 1).trans rfl; have hfzgb9_0 := blk_frozen BKgb9.out 0; have hfzgb9_1 := blk_frozen BKgb9.out 1; (try clear hczgb10_0 hczgb10_1 hfzgb10_0 hfzgb10_1); have hczgb10_0 : w99.cell? ⟨gb10, 0, none⟩ = some (.int .i64 g12) := (blk_cell BKgb10.out 0).trans rfl; have hczgb10_1 : w99.cell? ⟨gb10, 1, none⟩ = some (.slice Ao96 g13.length co97) := (blk_cell BKgb10.out 1).trans rfl; have hfzgb10_0 := blk_frozen BKgb10.out 0; have hfzgb10_1 := blk_frozen BKgb10.out 1) | ((with_reducible refine gate_callee (f := 19) rfl ?_); refine goesL_ (some 47) rfl rfl Try.func19 (by kernel_rfl) rfl #[.agg #[.int .i64 g12, .slice Ao96 g13.length co97], .agg #[.int .i64 g12, .slice Ao75 g13.length co76]] rfl (by (try simp only [List.map_toArray, List.map_cons, List.map_nil]); first | done | rfl | (simp only [List.length_drop, List.length_take]; rfl) | (simp only [iotaSS_length, iota_length]; done) | (simp only [iotaSS_length, iota_length]; rfl)) ?_; (with_reducible refine (laws_eqBraid.calls Kj100 g12 _ _ g13 g12 _ _ g13 true _ ?side1 ?side2 ?side3 ?side4 Aj100).mono ?_); (case side1 => repeat (first | exact (Kd.R_reads' H95.out).2.2 | (with_reducible refine Kd.C_alloc ?_ _) | (with_reducible refine Kd.C_drewN ?_ _) | (with_reducible refine Kd.C_drew ?_))); (case side2 => exact (Kd.R_reads' H95.out).2.1); (case side3 => repeat (first | exact (Kd.R_reads' H74.out).2.2 | (with_reducible refine Kd.C_alloc ?_ _) | (with_reducible refine Kd.C_drewN ?_ _) | (with_reducible refine Kd.C_drew ?_))); (case side4 => exact (Kd.R_reads' H74.out).2.1); rintro e w101 ⟨rfl, hb⟩; refine ⟨_, rfl, ?_⟩; have hs := below_step ((by repeat (first | (with_reducible first | exact Below.refl _ _ | apply below_alloc | apply pw_below_drewN | apply below_drew1) | exact Below.refl _ _)) : Below w99.heap.size w99 _) hb; have Lw101 := Aside0.mk (below_size hs); have n_ := Aside0.mk (Kd.R_below H74.out hs); clear H74; have H74 := n_; clear n_; have n_ := Aside0.mk (Kd.R_below H80.out hs); clear H80; have H80 := n_; clear n_; have n_ := Aside0.mk (Kd.R_below H87.out hs); clear H87; have H87 := n_; clear n_; have n_ := Aside0.mk (Kd.R_below H95.out hs); clear H95; have H95 := n_; clear n_; have n_ := Aside0.mk (blk_below BKgb2.out hs); clear BKgb2; have BKgb2 := n_; clear n_; have n_ := Aside0.mk (blk_below BKgb3.out hs); clear BKgb3; have BKgb3 := n_; clear n_; have n_ := Aside0.mk (blk_below BKgb72.out hs); clear BKgb72; have BKgb72 := n_; clear n_; have n_ := Aside0.mk (blk_below BKgb8.out hs); clear BKgb8; have BKgb8 := n_; clear n_; have n_ := Aside0.mk (blk_below BKgb9.out hs); clear BKgb9; have BKgb9 := n_; clear n_; have n_ := Aside0.mk (blk_below BKgb10.out hs); clear BKgb10; have BKgb10 := n_; clear n_; have n_ := Aside0.mk (below_step HB.out hs); clear HB; have HB := n_; clear n_; clear hs hb; (try clear hczgb2_0 hczgb2_1 hfzgb2_0 hfzgb2_1); have hczgb2_0 : w101.cell? ⟨gb2, 0, none⟩ = some (.int .i64 n0) := (blk_cell BKgb2.out 0).trans rfl; have hczgb2_1 : w101.cell? ⟨gb2, 1, none⟩ = some (.slice A0 l0.length c0) := (blk_cell BKgb2.out 1).trans rfl; have hfzgb2_0 := blk_frozen BKgb2.out 0; have hfzgb2_1 := blk_frozen BKgb2.out 1; (try clear hczgb3_0 hczgb3_1 hfzgb3_0 hfzgb3_1); have hczgb3_0 : w101.cell? ⟨gb3, 0, none⟩ = some (.int .i64 n1) := (blk_cell BKgb3.out 0).trans rfl; have hczgb3_1 : w101.cell? ⟨gb3, 1, none⟩ = some (.slice A1 l1.length c1) := (blk_cell BKgb3.out 1).trans rfl; have hfzgb3_0 := blk_frozen BKgb3.out 0; have hfzgb3_1 := blk_frozen BKgb3.out 1; (try clear hczgb72_0 hczgb72_1 hfzgb72_0 hfzgb72_1); have hczgb72_0 : w101.cell? ⟨gb72, 0, none⟩ = some (.int .i64 g12) := (blk_cell BKgb72.out 0).trans rfl; have hczgb72_1 : w101.cell? ⟨gb72, 1, none⟩ = some (.slice Ao75 g13.length co76) := (blk_cell BKgb72.out 1).trans rfl; have hfzgb72_0 := blk_frozen BKgb72.out 0; have hfzgb72_1 := blk_frozen BKgb72.out 1; (try clear hczgb8_0 hczgb8_1 hfzgb8_0 hfzgb8_1); have hczgb8_0 : w101.cell? ⟨gb8, 0, none⟩ = some (.int .i64 n0) := (blk_cell BKgb8.out 0).trans rfl; have hczgb8_1 : w101.cell? ⟨gb8, 1, none⟩ = some (.slice Ao81 l0.length co82) := (blk_cell BKgb8.out 1).trans rfl; have hfzgb8_0 := blk_frozen BKgb8.out 0; have hfzgb8_1 := blk_frozen BKgb8.out 1; (try clear hczgb9_0 hczgb9_1 hfzgb9_0 hfzgb9_1); have hczgb9_0 : w101.cell? ⟨gb9, 0, none⟩ = some (.int .i64 n1) := (blk_cell BKgb9.out 0).trans rfl; have hczgb9_1 : w101.cell? ⟨gb9, 1, none⟩ = some (.slice Ao88 l1.length co89) := (blk_cell BKgb9.out 1).trans rfl; have hfzgb9_0 := blk_frozen BKgb9.out 0; have hfzgb9_1 := blk_frozen BKgb9.out 1; (try clear hczgb10_0 hczgb10_1 hfzgb10_0 hfzgb10_1); have hczgb10_0 : w101.cell? ⟨gb10, 0, none⟩ = some (.int .i64 g12) := (blk_cell BKgb10.out 0).trans rfl; have hczgb10_1 : w101.cell? ⟨gb10, 1, none⟩ = some (.slice Ao96 g13.length co97) := (blk_cell BKgb10.out 1).trans rfl; have hfzgb10_0 := blk_frozen BKgb10.out 0; have hfzgb10_1 := blk_frozen BKgb10.out 1))
  refine start_ (n := 5) (S := fun w' => w'.cell? ⟨gb2, 0, none⟩ = some (.int .i64 n0) ∧ w'.cell? ⟨gb2, 1, none⟩ = some (.slice A0 l0.length c0) ∧ w'.cell? ⟨gb3, 0, none⟩ = some (.int .i64 n1) ∧ w'.cell? ⟨gb3, 1, none⟩ = some (.slice A1 l1.length c1) ∧ w'.cell? ⟨gb72, 0, none⟩ = some (.int .i64 g12) ∧ w'.cell? ⟨gb72, 1, none⟩ = some (.slice Ao75 g13.length co76) ∧ w'.cell? ⟨gb8, 0, none⟩ = some (.int .i64 n0) ∧ w'.cell? ⟨gb8, 1, none⟩ = some (.slice Ao81 l0.length co82) ∧ w'.cell? ⟨gb9, 0, none⟩ = some (.int .i64 n1) ∧ w'.cell? ⟨gb9, 1, none⟩ = some (.slice Ao88 l1.length co89) ∧ w'.cell? ⟨gb10, 0, none⟩ = some (.int .i64 g12) ∧ w'.cell? ⟨gb10, 1, none⟩ = some (.slice Ao96 g13.length co97)) (ds := []) #[false, false, false, false, false] (by kernel_rfl) rfl rfl ⟨(blk_cell (blk_below BKgb2.out ((by repeat (first | (with_reducible first | exact Below.refl _ _ | apply below_alloc | apply pw_below_drewN | apply below_drew1) | exact Below.refl _ _)) : Below w101.heap.size w101 _)) 0).trans rfl, (blk_cell (blk_below BKgb2.out ((by repeat (first | (with_reducible first | exact Below.refl _ _ | apply below_alloc | apply pw_below_drewN | apply below_drew1) | exact Below.refl _ _)) : Below w101.heap.size w101 _)) 1).trans rfl, (blk_cell (blk_below BKgb3.out ((by repeat (first | (with_reducible first | exact Below.refl _ _ | apply below_alloc | apply pw_below_drewN | apply below_drew1) | exact Below.refl _ _)) : Below w101.heap.size w101 _)) 0).trans rfl, (blk_cell (blk_below BKgb3.out ((by repeat (first | (with_reducible first | exact Below.refl _ _ | apply below_alloc | apply pw_below_drewN | apply below_drew1) | exact Below.refl _ _)) : Below w101.heap.size w101 _)) 1).trans rfl, (blk_cell (blk_below BKgb72.out ((by repeat (first | (with_reducible first | exact Below.refl _ _ | apply below_alloc | apply pw_below_drewN | apply below_drew1) | exact Below.refl _ _)) : Below w101.heap.size w101 _)) 0).trans rfl, (blk_cell (blk_below BKgb72.out ((by repeat (first | (with_reducible first | exact Below.refl _ _ | apply below_alloc | apply pw_below_drewN | apply below_drew1) | exact Below.refl _ _)) : Below w101.heap.size w101 _)) 1).trans rfl, (blk_cell (blk_below BKgb8.out ((by repeat (first | (with_reducible first | exact Below.refl _ _ | apply below_alloc | apply pw_below_drewN | apply below_drew1) | exact Below.refl _ _)) : Below w101.heap.size w101 _)) 0).trans rfl, (blk_cell (blk_below BKgb8.out ((by repeat (first | (with_reducible first | exact Below.refl _ _ | apply below_alloc | apply pw_below_drewN | apply below_drew1) | exact Below.refl _ _)) : Below w101.heap.size w101 _)) 1).trans rfl, (blk_cell (blk_below BKgb9.out ((by repeat (first | (with_reducible first | exact Below.refl _ _ | apply below_alloc | apply pw_below_drewN | apply below_drew1) | exact Below.refl _ _)) : Below w101.heap.size w101 _)) 0).trans rfl, (blk_cell (blk_below BKgb9.out ((by repeat (first | (with_reducible first | exact Below.refl _ _ | apply below_alloc | apply pw_below_drewN | apply below_drew1) | exact Below.refl _ _)) : Below w101.heap.size w101 _)) 1).trans rfl, (blk_cell (blk_below BKgb10.out ((by repeat (first | (with_reducible first | exact Below.refl _ _ | apply below_alloc | apply pw_below_drewN | apply below_drew1) | exact Below.refl _ _)) : Below w101.heap.size w101 _)) 0).trans rfl, (blk_cell (blk_below BKgb10.out ((by repeat (first | (with_reducible first | exact Below.refl _ _ | apply below_alloc | apply pw_below_drewN | apply below_drew1) | exact Below.refl _ _)) : Below w101.heap.size w101 _)) 1).trans rfl⟩ (fun hHeld => ?_)
  refine take_ (i := 0) (N := some 54) (v := ?_) (a' := ?_) #[true, false, false, false, false] rfl rfl (by kernel_rfl) (fun _ _ _ h => h) (Or.inl ⟨by rfl, ?_⟩) hHeld ?_ ?_
  rotate_left
  · rintro w' ⟨s0, s1, s2, s3, s4, s5, s6, s7, s8, s9, s10, s11⟩
    go_simp
    with_reducible rfl
  rotate_left
  · simp only [Act.put, List.setIfInBounds_toArray, List.set_cons_zero, List.set_cons_succ, i64_w, i32_w]
    rfl
  refine take_ (i := 1) (N := some 55) (v := ?_) (a' := ?_) #[true, true, false, false, false] rfl rfl (by kernel_rfl) (fun _ _ _ h => h) (Or.inl ⟨by rfl, ?_⟩) hHeld ?_ ?_
  rotate_left
  · rintro w' ⟨s0, s1, s2, s3, s4, s5, s6, s7, s8, s9, s10, s11⟩
    go_simp
    with_reducible rfl
  rotate_left
  · simp only [Act.put, List.setIfInBounds_toArray, List.set_cons_zero, List.set_cons_succ, i64_w, i32_w]
    rfl
  refine one_ (i := 2) (N := some 56) #[true, true, true, false, false] rfl rfl (by kernel_rfl) (by decide) (fun K hK => ?_)
  refine goes_ Try.func17 (by kernel_rfl) rfl #[.agg #[.int .i64 n0, .slice A0 l0.length c0]] (by rfl) rfl rfl (by (try simp only [List.map_toArray, List.map_cons, List.map_nil]); first | done | rfl | (simp only [List.length_drop, List.length_take]; rfl) | (simp only [iotaSS_length, iota_length]; done) | (simp only [iotaSS_length, iota_length]; rfl)) ?_
  (with_reducible refine (laws_toBraid.calls Kj10 n0 _ _ l0 n0 l0 _ ?side1 ?side2 Aj10).mono ?_)
  (case side1 => first | exact HR0.out | exact Kd.C_below HR0.out (below_step HB.out ((by repeat (first | (with_reducible first | exact Below.refl _ _ | apply below_alloc | apply pw_below_drewN | apply below_drew1) | exact Below.refl _ _)) : Below w101.heap.size w101 _)))
  (case side2 => exact HC0.out)
  rintro e w103 ⟨v102, rfl, ho1, hb⟩
  refine ⟨_, rfl, ?_⟩
  have hs := below_step ((by repeat (first | (with_reducible first | exact Below.refl _ _ | apply below_alloc | apply pw_below_drewN | apply below_drew1) | exact Below.refl _ _)) : Below w101.heap.size w101 _) hb
  have Lw103 := Aside0.mk (below_size hs)
  have hn1 := Aside0.mk (R_born ((by repeat (first | (with_reducible first | exact Below.refl _ _ | apply below_alloc | apply pw_below_drewN | apply below_drew1) | exact Below.refl _ _)) : Below w101.heap.size w101 _) (below_size HB.out) ho1)
  have n_ := Aside0.mk (Kd.R_below H74.out hs)
  clear H74
  have H74 := n_
  clear n_
  have n_ := Aside0.mk (Kd.R_below H80.out hs)
  clear H80
  have H80 := n_
  clear n_
  have n_ := Aside0.mk (Kd.R_below H87.out hs)
  clear H87
  have H87 := n_
  clear n_
  have n_ := Aside0.mk (Kd.R_below H95.out hs)
  clear H95
  have H95 := n_
  clear n_
  have n_ := Aside0.mk (blk_below BKgb2.out hs)
  clear BKgb2
  have BKgb2 := n_
  clear n_
  have n_ := Aside0.mk (blk_below BKgb3.out hs)
  clear BKgb3
  have BKgb3 := n_
  clear n_
  have n_ := Aside0.mk (blk_below BKgb72.out hs)
  clear BKgb72
  have BKgb72 := n_
  clear n_
  have n_ := Aside0.mk (blk_below BKgb8.out hs)
  clear BKgb8
  have BKgb8 := n_
  clear n_
  have n_ := Aside0.mk (blk_below BKgb9.out hs)
  clear BKgb9
  have BKgb9 := n_
  clear n_
  have n_ := Aside0.mk (blk_below BKgb10.out hs)
  clear BKgb10
  have BKgb10 := n_
  clear n_
  have n_ := Aside0.mk (below_step HB.out hs)
  clear HB
  have HB := n_
  clear n_
  obtain ⟨Ao105, co106, rfl⟩ := Kd.R_slice hn1.out
  have H104 := hn1
  clear hn1
  clear hs hb
  clear ho1
  (try clear hczgb2_0 hczgb2_1 hfzgb2_0 hfzgb2_1)
  have hczgb2_0 : w103.cell? ⟨gb2, 0, none⟩ = some (.int .i64 n0) := (blk_cell BKgb2.out 0).trans rfl
  have hczgb2_1 : w103.cell? ⟨gb2, 1, none⟩ = some (.slice A0 l0.length c0) := (blk_cell BKgb2.out 1).trans rfl
  have hfzgb2_0 := blk_frozen BKgb2.out 0
  have hfzgb2_1 := blk_frozen BKgb2.out 1
  (try clear hczgb3_0 hczgb3_1 hfzgb3_0 hfzgb3_1)
  have hczgb3_0 : w103.cell? ⟨gb3, 0, none⟩ = some (.int .i64 n1) := (blk_cell BKgb3.out 0).trans rfl
  have hczgb3_1 : w103.cell? ⟨gb3, 1, none⟩ = some (.slice A1 l1.length c1) := (blk_cell BKgb3.out 1).trans rfl
  have hfzgb3_0 := blk_frozen BKgb3.out 0
  have hfzgb3_1 := blk_frozen BKgb3.out 1
  (try clear hczgb72_0 hczgb72_1 hfzgb72_0 hfzgb72_1)
  have hczgb72_0 : w103.cell? ⟨gb72, 0, none⟩ = some (.int .i64 g12) := (blk_cell BKgb72.out 0).trans rfl
  have hczgb72_1 : w103.cell? ⟨gb72, 1, none⟩ = some (.slice Ao75 g13.length co76) := (blk_cell BKgb72.out 1).trans rfl
  have hfzgb72_0 := blk_frozen BKgb72.out 0
  have hfzgb72_1 := blk_frozen BKgb72.out 1
  (try clear hczgb8_0 hczgb8_1 hfzgb8_0 hfzgb8_1)
  have hczgb8_0 : w103.cell? ⟨gb8, 0, none⟩ = some (.int .i64 n0) := (blk_cell BKgb8.out 0).trans rfl
  have hczgb8_1 : w103.cell? ⟨gb8, 1, none⟩ = some (.slice Ao81 l0.length co82) := (blk_cell BKgb8.out 1).trans rfl
  have hfzgb8_0 := blk_frozen BKgb8.out 0
  have hfzgb8_1 := blk_frozen BKgb8.out 1
  (try clear hczgb9_0 hczgb9_1 hfzgb9_0 hfzgb9_1)
  have hczgb9_0 : w103.cell? ⟨gb9, 0, none⟩ = some (.int .i64 n1) := (blk_cell BKgb9.out 0).trans rfl
  have hczgb9_1 : w103.cell? ⟨gb9, 1, none⟩ = some (.slice Ao88 l1.length co89) := (blk_cell BKgb9.out 1).trans rfl
  have hfzgb9_0 := blk_frozen BKgb9.out 0
  have hfzgb9_1 := blk_frozen BKgb9.out 1
  (try clear hczgb10_0 hczgb10_1 hfzgb10_0 hfzgb10_1)
  have hczgb10_0 : w103.cell? ⟨gb10, 0, none⟩ = some (.int .i64 g12) := (blk_cell BKgb10.out 0).trans rfl
  have hczgb10_1 : w103.cell? ⟨gb10, 1, none⟩ = some (.slice Ao96 g13.length co97) := (blk_cell BKgb10.out 1).trans rfl
  have hfzgb10_0 := blk_frozen BKgb10.out 0
  have hfzgb10_1 := blk_frozen BKgb10.out 1
  refine hK.out _ _ ⟨(blk_cell BKgb2.out 0).trans rfl, (blk_cell BKgb2.out 1).trans rfl, (blk_cell BKgb3.out 0).trans rfl, (blk_cell BKgb3.out 1).trans rfl, (blk_cell BKgb72.out 0).trans rfl, (blk_cell BKgb72.out 1).trans rfl, (blk_cell BKgb8.out 0).trans rfl, (blk_cell BKgb8.out 1).trans rfl, (blk_cell BKgb9.out 0).trans rfl, (blk_cell BKgb9.out 1).trans rfl, (blk_cell BKgb10.out 0).trans rfl, (blk_cell BKgb10.out 1).trans rfl⟩ (fun hHeld => ?_)
  clear hK K
  refine norm_ (a' := ?_) ?_ ?_
  rotate_left
  · show Act.put _ (some 56) _ = _
    simp only [Act.put, List.setIfInBounds_toArray, List.set_cons_zero, List.set_cons_succ, i64_w, i32_w]
    rfl
  refine one_ (i := 3) (N := some 57) #[true, true, true, true, false] rfl rfl (by kernel_rfl) (by decide) (fun K hK => ?_)
  refine goes_ Try.func19 (by kernel_rfl) rfl #[.agg #[.int .i64 n0, .slice Ao81 l0.length co82], .agg #[.int .i64 n0, .slice Ao105 l0.length co106]] (by rfl) rfl rfl (by (try simp only [List.map_toArray, List.map_cons, List.map_nil]); first | done | rfl | (simp only [List.length_drop, List.length_take]; rfl) | (simp only [iotaSS_length, iota_length]; done) | (simp only [iotaSS_length, iota_length]; rfl)) ?_
  (with_reducible refine (laws_eqBraid.calls Kj107 n0 _ _ l0 n0 _ _ l0 true _ ?side1 ?side2 ?side3 ?side4 Aj107).mono ?_)
  (case side1 => repeat (first | exact (Kd.R_reads' H80.out).2.2 | (with_reducible refine Kd.C_alloc ?_ _) | (with_reducible refine Kd.C_drewN ?_ _) | (with_reducible refine Kd.C_drew ?_)))
  (case side2 => exact (Kd.R_reads' H80.out).2.1)
  (case side3 => repeat (first | exact (Kd.R_reads' H104.out).2.2 | (with_reducible refine Kd.C_alloc ?_ _) | (with_reducible refine Kd.C_drewN ?_ _) | (with_reducible refine Kd.C_drew ?_)))
  (case side4 => exact (Kd.R_reads' H104.out).2.1)
  rintro e w108 ⟨rfl, hb⟩
  refine ⟨_, rfl, ?_⟩
  have hs := below_step ((by repeat (first | (with_reducible first | exact Below.refl _ _ | apply below_alloc | apply pw_below_drewN | apply below_drew1) | exact Below.refl _ _)) : Below w103.heap.size w103 _) hb
  have Lw108 := Aside0.mk (below_size hs)
  have n_ := Aside0.mk (Kd.R_below H74.out hs)
  clear H74
  have H74 := n_
  clear n_
  have n_ := Aside0.mk (Kd.R_below H80.out hs)
  clear H80
  have H80 := n_
  clear n_
  have n_ := Aside0.mk (Kd.R_below H87.out hs)
  clear H87
  have H87 := n_
  clear n_
  have n_ := Aside0.mk (Kd.R_below H95.out hs)
  clear H95
  have H95 := n_
  clear n_
  have n_ := Aside0.mk (Kd.R_below H104.out hs)
  clear H104
  have H104 := n_
  clear n_
  have n_ := Aside0.mk (blk_below BKgb2.out hs)
  clear BKgb2
  have BKgb2 := n_
  clear n_
  have n_ := Aside0.mk (blk_below BKgb3.out hs)
  clear BKgb3
  have BKgb3 := n_
  clear n_
  have n_ := Aside0.mk (blk_below BKgb72.out hs)
  clear BKgb72
  have BKgb72 := n_
  clear n_
  have n_ := Aside0.mk (blk_below BKgb8.out hs)
  clear BKgb8
  have BKgb8 := n_
  clear n_
  have n_ := Aside0.mk (blk_below BKgb9.out hs)
  clear BKgb9
  have BKgb9 := n_
  clear n_
  have n_ := Aside0.mk (blk_below BKgb10.out hs)
  clear BKgb10
  have BKgb10 := n_
  clear n_
  have n_ := Aside0.mk (below_step HB.out hs)
  clear HB
  have HB := n_
  clear n_
  clear hs hb
  (try clear hczgb2_0 hczgb2_1 hfzgb2_0 hfzgb2_1)
  have hczgb2_0 : w108.cell? ⟨gb2, 0, none⟩ = some (.int .i64 n0) := (blk_cell BKgb2.out 0).trans rfl
  have hczgb2_1 : w108.cell? ⟨gb2, 1, none⟩ = some (.slice A0 l0.length c0) := (blk_cell BKgb2.out 1).trans rfl
  have hfzgb2_0 := blk_frozen BKgb2.out 0
  have hfzgb2_1 := blk_frozen BKgb2.out 1
  (try clear hczgb3_0 hczgb3_1 hfzgb3_0 hfzgb3_1)
  have hczgb3_0 : w108.cell? ⟨gb3, 0, none⟩ = some (.int .i64 n1) := (blk_cell BKgb3.out 0).trans rfl
  have hczgb3_1 : w108.cell? ⟨gb3, 1, none⟩ = some (.slice A1 l1.length c1) := (blk_cell BKgb3.out 1).trans rfl
  have hfzgb3_0 := blk_frozen BKgb3.out 0
  have hfzgb3_1 := blk_frozen BKgb3.out 1
  (try clear hczgb72_0 hczgb72_1 hfzgb72_0 hfzgb72_1)
  have hczgb72_0 : w108.cell? ⟨gb72, 0, none⟩ = some (.int .i64 g12) := (blk_cell BKgb72.out 0).trans rfl
  have hczgb72_1 : w108.cell? ⟨gb72, 1, none⟩ = some (.slice Ao75 g13.length co76) := (blk_cell BKgb72.out 1).trans rfl
  have hfzgb72_0 := blk_frozen BKgb72.out 0
  have hfzgb72_1 := blk_frozen BKgb72.out 1
  (try clear hczgb8_0 hczgb8_1 hfzgb8_0 hfzgb8_1)
  have hczgb8_0 : w108.cell? ⟨gb8, 0, none⟩ = some (.int .i64 n0) := (blk_cell BKgb8.out 0).trans rfl
  have hczgb8_1 : w108.cell? ⟨gb8, 1, none⟩ = some (.slice Ao81 l0.length co82) := (blk_cell BKgb8.out 1).trans rfl
  have hfzgb8_0 := blk_frozen BKgb8.out 0
  have hfzgb8_1 := blk_frozen BKgb8.out 1
  (try clear hczgb9_0 hczgb9_1 hfzgb9_0 hfzgb9_1)
  have hczgb9_0 : w108.cell? ⟨gb9, 0, none⟩ = some (.int .i64 n1) := (blk_cell BKgb9.out 0).trans rfl
  have hczgb9_1 : w108.cell? ⟨gb9, 1, none⟩ = some (.slice Ao88 l1.length co89) := (blk_cell BKgb9.out 1).trans rfl
  have hfzgb9_0 := blk_frozen BKgb9.out 0
  have hfzgb9_1 := blk_frozen BKgb9.out 1
  (try clear hczgb10_0 hczgb10_1 hfzgb10_0 hfzgb10_1)
  have hczgb10_0 : w108.cell? ⟨gb10, 0, none⟩ = some (.int .i64 g12) := (blk_cell BKgb10.out 0).trans rfl
  have hczgb10_1 : w108.cell? ⟨gb10, 1, none⟩ = some (.slice Ao96 g13.length co97) := (blk_cell BKgb10.out 1).trans rfl
  have hfzgb10_0 := blk_frozen BKgb10.out 0
  have hfzgb10_1 := blk_frozen BKgb10.out 1
  refine hK.out _ _ ⟨(blk_cell BKgb2.out 0).trans rfl, (blk_cell BKgb2.out 1).trans rfl, (blk_cell BKgb3.out 0).trans rfl, (blk_cell BKgb3.out 1).trans rfl, (blk_cell BKgb72.out 0).trans rfl, (blk_cell BKgb72.out 1).trans rfl, (blk_cell BKgb8.out 0).trans rfl, (blk_cell BKgb8.out 1).trans rfl, (blk_cell BKgb9.out 0).trans rfl, (blk_cell BKgb9.out 1).trans rfl, (blk_cell BKgb10.out 0).trans rfl, (blk_cell BKgb10.out 1).trans rfl⟩ (fun hHeld => ?_)
  clear hK K
  refine norm_ (a' := ?_) ?_ ?_
  rotate_left
  · show Act.put _ (some 57) _ = _
    simp only [Act.put, List.setIfInBounds_toArray, List.set_cons_zero, List.set_cons_succ, i64_w, i32_w]
    rfl
  refine pure_ (i := 4) (N := some 58) (v := ?_) (a' := ?_) #[true, true, true, true, true] rfl rfl (by kernel_rfl) (fun _ _ _ h => h) (Or.inl ⟨by rfl, ?_⟩) ?_ ?_
  rotate_left
  · intro w'
    go_simp
    with_reducible rfl
  rotate_left
  · simp only [Act.put, List.setIfInBounds_toArray, List.set_cons_zero, List.set_cons_succ, i64_w, i32_w]
    rfl
  refine done_ (by kernel_rfl) ?_
  go_wp2
  refine start_ (n := 5) (S := fun w' => w'.cell? ⟨gb2, 0, none⟩ = some (.int .i64 n0) ∧ w'.cell? ⟨gb2, 1, none⟩ = some (.slice A0 l0.length c0) ∧ w'.cell? ⟨gb3, 0, none⟩ = some (.int .i64 n1) ∧ w'.cell? ⟨gb3, 1, none⟩ = some (.slice A1 l1.length c1) ∧ w'.cell? ⟨gb72, 0, none⟩ = some (.int .i64 g12) ∧ w'.cell? ⟨gb72, 1, none⟩ = some (.slice Ao75 g13.length co76) ∧ w'.cell? ⟨gb8, 0, none⟩ = some (.int .i64 n0) ∧ w'.cell? ⟨gb8, 1, none⟩ = some (.slice Ao81 l0.length co82) ∧ w'.cell? ⟨gb9, 0, none⟩ = some (.int .i64 n1) ∧ w'.cell? ⟨gb9, 1, none⟩ = some (.slice Ao88 l1.length co89) ∧ w'.cell? ⟨gb10, 0, none⟩ = some (.int .i64 g12) ∧ w'.cell? ⟨gb10, 1, none⟩ = some (.slice Ao96 g13.length co97)) (ds := []) #[false, false, false, false, false] (by kernel_rfl) rfl rfl ⟨(blk_cell (blk_below BKgb2.out ((by repeat (first | (with_reducible first | exact Below.refl _ _ | apply below_alloc | apply pw_below_drewN | apply below_drew1) | exact Below.refl _ _)) : Below w108.heap.size w108 _)) 0).trans rfl, (blk_cell (blk_below BKgb2.out ((by repeat (first | (with_reducible first | exact Below.refl _ _ | apply below_alloc | apply pw_below_drewN | apply below_drew1) | exact Below.refl _ _)) : Below w108.heap.size w108 _)) 1).trans rfl, (blk_cell (blk_below BKgb3.out ((by repeat (first | (with_reducible first | exact Below.refl _ _ | apply below_alloc | apply pw_below_drewN | apply below_drew1) | exact Below.refl _ _)) : Below w108.heap.size w108 _)) 0).trans rfl, (blk_cell (blk_below BKgb3.out ((by repeat (first | (with_reducible first | exact Below.refl _ _ | apply below_alloc | apply pw_below_drewN | apply below_drew1) | exact Below.refl _ _)) : Below w108.heap.size w108 _)) 1).trans rfl, (blk_cell (blk_below BKgb72.out ((by repeat (first | (with_reducible first | exact Below.refl _ _ | apply below_alloc | apply pw_below_drewN | apply below_drew1) | exact Below.refl _ _)) : Below w108.heap.size w108 _)) 0).trans rfl, (blk_cell (blk_below BKgb72.out ((by repeat (first | (with_reducible first | exact Below.refl _ _ | apply below_alloc | apply pw_below_drewN | apply below_drew1) | exact Below.refl _ _)) : Below w108.heap.size w108 _)) 1).trans rfl, (blk_cell (blk_below BKgb8.out ((by repeat (first | (with_reducible first | exact Below.refl _ _ | apply below_alloc | apply pw_below_drewN | apply below_drew1) | exact Below.refl _ _)) : Below w108.heap.size w108 _)) 0).trans rfl, (blk_cell (blk_below BKgb8.out ((by repeat (first | (with_reducible first | exact Below.refl _ _ | apply below_alloc | apply pw_below_drewN | apply below_drew1) | exact Below.refl _ _)) : Below w108.heap.size w108 _)) 1).trans rfl, (blk_cell (blk_below BKgb9.out ((by repeat (first | (with_reducible first | exact Below.refl _ _ | apply below_alloc | apply pw_below_drewN | apply below_drew1) | exact Below.refl _ _)) : Below w108.heap.size w108 _)) 0).trans rfl, (blk_cell (blk_below BKgb9.out ((by repeat (first | (with_reducible first | exact Below.refl _ _ | apply below_alloc | apply pw_below_drewN | apply below_drew1) | exact Below.refl _ _)) : Below w108.heap.size w108 _)) 1).trans rfl, (blk_cell (blk_below BKgb10.out ((by repeat (first | (with_reducible first | exact Below.refl _ _ | apply below_alloc | apply pw_below_drewN | apply below_drew1) | exact Below.refl _ _)) : Below w108.heap.size w108 _)) 0).trans rfl, (blk_cell (blk_below BKgb10.out ((by repeat (first | (with_reducible first | exact Below.refl _ _ | apply below_alloc | apply pw_below_drewN | apply below_drew1) | exact Below.refl _ _)) : Below w108.heap.size w108 _)) 1).trans rfl⟩ (fun hHeld => ?_)
  refine take_ (i := 0) (N := some 59) (v := ?_) (a' := ?_) #[true, false, false, false, false] rfl rfl (by kernel_rfl) (fun _ _ _ h => h) (Or.inl ⟨by rfl, ?_⟩) hHeld ?_ ?_
  rotate_left
  · rintro w' ⟨s0, s1, s2, s3, s4, s5, s6, s7, s8, s9, s10, s11⟩
    go_simp
    with_reducible rfl
  rotate_left
  · simp only [Act.put, List.setIfInBounds_toArray, List.set_cons_zero, List.set_cons_succ, i64_w, i32_w]
    rfl
  refine take_ (i := 1) (N := some 60) (v := ?_) (a' := ?_) #[true, true, false, false, false] rfl rfl (by kernel_rfl) (fun _ _ _ h => h) (Or.inl ⟨by rfl, ?_⟩) hHeld ?_ ?_
  rotate_left
  · rintro w' ⟨s0, s1, s2, s3, s4, s5, s6, s7, s8, s9, s10, s11⟩
    go_simp
    with_reducible rfl
  rotate_left
  · simp only [Act.put, List.setIfInBounds_toArray, List.set_cons_zero, List.set_cons_succ, i64_w, i32_w]
    rfl
  refine one_ (i := 2) (N := some 61) #[true, true, true, false, false] rfl rfl (by kernel_rfl) (by decide) (fun K hK => ?_)
  refine goes_ Try.func17 (by kernel_rfl) rfl #[.agg #[.int .i64 n1, .slice A1 l1.length c1]] (by rfl) rfl rfl (by (try simp only [List.map_toArray, List.map_cons, List.map_nil]); first | done | rfl | (simp only [List.length_drop, List.length_take]; rfl) | (simp only [iotaSS_length, iota_length]; done) | (simp only [iotaSS_length, iota_length]; rfl)) ?_
  (with_reducible refine (laws_toBraid.calls Kj11 n1 _ _ l1 n1 l1 _ ?side1 ?side2 Aj11).mono ?_)
  (case side1 => first | exact HR1.out | exact Kd.C_below HR1.out (below_step HB.out ((by repeat (first | (with_reducible first | exact Below.refl _ _ | apply below_alloc | apply pw_below_drewN | apply below_drew1) | exact Below.refl _ _)) : Below w108.heap.size w108 _)))
  (case side2 => exact HC1.out)
  rintro e w110 ⟨v109, rfl, ho1, hb⟩
  refine ⟨_, rfl, ?_⟩
  have hs := below_step ((by repeat (first | (with_reducible first | exact Below.refl _ _ | apply below_alloc | apply pw_below_drewN | apply below_drew1) | exact Below.refl _ _)) : Below w108.heap.size w108 _) hb
  have Lw110 := Aside0.mk (below_size hs)
  have hn1 := Aside0.mk (R_born ((by repeat (first | (with_reducible first | exact Below.refl _ _ | apply below_alloc | apply pw_below_drewN | apply below_drew1) | exact Below.refl _ _)) : Below w108.heap.size w108 _) (below_size HB.out) ho1)
  have n_ := Aside0.mk (Kd.R_below H74.out hs)
  clear H74
  have H74 := n_
  clear n_
  have n_ := Aside0.mk (Kd.R_below H80.out hs)
  clear H80
  have H80 := n_
  clear n_
  have n_ := Aside0.mk (Kd.R_below H87.out hs)
  clear H87
  have H87 := n_
  clear n_
  have n_ := Aside0.mk (Kd.R_below H95.out hs)
  clear H95
  have H95 := n_
  clear n_
  have n_ := Aside0.mk (Kd.R_below H104.out hs)
  clear H104
  have H104 := n_
  clear n_
  have n_ := Aside0.mk (blk_below BKgb2.out hs)
  clear BKgb2
  have BKgb2 := n_
  clear n_
  have n_ := Aside0.mk (blk_below BKgb3.out hs)
  clear BKgb3
  have BKgb3 := n_
  clear n_
  have n_ := Aside0.mk (blk_below BKgb72.out hs)
  clear BKgb72
  have BKgb72 := n_
  clear n_
  have n_ := Aside0.mk (blk_below BKgb8.out hs)
  clear BKgb8
  have BKgb8 := n_
  clear n_
  have n_ := Aside0.mk (blk_below BKgb9.out hs)
  clear BKgb9
  have BKgb9 := n_
  clear n_
  have n_ := Aside0.mk (blk_below BKgb10.out hs)
  clear BKgb10
  have BKgb10 := n_
  clear n_
  have n_ := Aside0.mk (below_step HB.out hs)
  clear HB
  have HB := n_
  clear n_
  obtain ⟨Ao112, co113, rfl⟩ := Kd.R_slice hn1.out
  have H111 := hn1
  clear hn1
  clear hs hb
  clear ho1
  (try clear hczgb2_0 hczgb2_1 hfzgb2_0 hfzgb2_1)
  have hczgb2_0 : w110.cell? ⟨gb2, 0, none⟩ = some (.int .i64 n0) := (blk_cell BKgb2.out 0).trans rfl
  have hczgb2_1 : w110.cell? ⟨gb2, 1, none⟩ = some (.slice A0 l0.length c0) := (blk_cell BKgb2.out 1).trans rfl
  have hfzgb2_0 := blk_frozen BKgb2.out 0
  have hfzgb2_1 := blk_frozen BKgb2.out 1
  (try clear hczgb3_0 hczgb3_1 hfzgb3_0 hfzgb3_1)
  have hczgb3_0 : w110.cell? ⟨gb3, 0, none⟩ = some (.int .i64 n1) := (blk_cell BKgb3.out 0).trans rfl
  have hczgb3_1 : w110.cell? ⟨gb3, 1, none⟩ = some (.slice A1 l1.length c1) := (blk_cell BKgb3.out 1).trans rfl
  have hfzgb3_0 := blk_frozen BKgb3.out 0
  have hfzgb3_1 := blk_frozen BKgb3.out 1
  (try clear hczgb72_0 hczgb72_1 hfzgb72_0 hfzgb72_1)
  have hczgb72_0 : w110.cell? ⟨gb72, 0, none⟩ = some (.int .i64 g12) := (blk_cell BKgb72.out 0).trans rfl
  have hczgb72_1 : w110.cell? ⟨gb72, 1, none⟩ = some (.slice Ao75 g13.length co76) := (blk_cell BKgb72.out 1).trans rfl
  have hfzgb72_0 := blk_frozen BKgb72.out 0
  have hfzgb72_1 := blk_frozen BKgb72.out 1
  (try clear hczgb8_0 hczgb8_1 hfzgb8_0 hfzgb8_1)
  have hczgb8_0 : w110.cell? ⟨gb8, 0, none⟩ = some (.int .i64 n0) := (blk_cell BKgb8.out 0).trans rfl
  have hczgb8_1 : w110.cell? ⟨gb8, 1, none⟩ = some (.slice Ao81 l0.length co82) := (blk_cell BKgb8.out 1).trans rfl
  have hfzgb8_0 := blk_frozen BKgb8.out 0
  have hfzgb8_1 := blk_frozen BKgb8.out 1
  (try clear hczgb9_0 hczgb9_1 hfzgb9_0 hfzgb9_1)
  have hczgb9_0 : w110.cell? ⟨gb9, 0, none⟩ = some (.int .i64 n1) := (blk_cell BKgb9.out 0).trans rfl
  have hczgb9_1 : w110.cell? ⟨gb9, 1, none⟩ = some (.slice Ao88 l1.length co89) := (blk_cell BKgb9.out 1).trans rfl
  have hfzgb9_0 := blk_frozen BKgb9.out 0
  have hfzgb9_1 := blk_frozen BKgb9.out 1
  (try clear hczgb10_0 hczgb10_1 hfzgb10_0 hfzgb10_1)
  have hczgb10_0 : w110.cell? ⟨gb10, 0, none⟩ = some (.int .i64 g12) := (blk_cell BKgb10.out 0).trans rfl
  have hczgb10_1 : w110.cell? ⟨gb10, 1, none⟩ = some (.slice Ao96 g13.length co97) := (blk_cell BKgb10.out 1).trans rfl
  have hfzgb10_0 := blk_frozen BKgb10.out 0
  have hfzgb10_1 := blk_frozen BKgb10.out 1
  refine hK.out _ _ ⟨(blk_cell BKgb2.out 0).trans rfl, (blk_cell BKgb2.out 1).trans rfl, (blk_cell BKgb3.out 0).trans rfl, (blk_cell BKgb3.out 1).trans rfl, (blk_cell BKgb72.out 0).trans rfl, (blk_cell BKgb72.out 1).trans rfl, (blk_cell BKgb8.out 0).trans rfl, (blk_cell BKgb8.out 1).trans rfl, (blk_cell BKgb9.out 0).trans rfl, (blk_cell BKgb9.out 1).trans rfl, (blk_cell BKgb10.out 0).trans rfl, (blk_cell BKgb10.out 1).trans rfl⟩ (fun hHeld => ?_)
  clear hK K
  refine norm_ (a' := ?_) ?_ ?_
  rotate_left
  · show Act.put _ (some 61) _ = _
    simp only [Act.put, List.setIfInBounds_toArray, List.set_cons_zero, List.set_cons_succ, i64_w, i32_w]
    rfl
  refine one_ (i := 3) (N := some 62) #[true, true, true, true, false] rfl rfl (by kernel_rfl) (by decide) (fun K hK => ?_)
  refine goes_ Try.func19 (by kernel_rfl) rfl #[.agg #[.int .i64 n1, .slice Ao88 l1.length co89], .agg #[.int .i64 n1, .slice Ao112 l1.length co113]] (by rfl) rfl rfl (by (try simp only [List.map_toArray, List.map_cons, List.map_nil]); first | done | rfl | (simp only [List.length_drop, List.length_take]; rfl) | (simp only [iotaSS_length, iota_length]; done) | (simp only [iotaSS_length, iota_length]; rfl)) ?_
  (with_reducible refine (laws_eqBraid.calls Kj114 n1 _ _ l1 n1 _ _ l1 true _ ?side1 ?side2 ?side3 ?side4 Aj114).mono ?_)
  (case side1 => repeat (first | exact (Kd.R_reads' H87.out).2.2 | (with_reducible refine Kd.C_alloc ?_ _) | (with_reducible refine Kd.C_drewN ?_ _) | (with_reducible refine Kd.C_drew ?_)))
  (case side2 => exact (Kd.R_reads' H87.out).2.1)
  (case side3 => repeat (first | exact (Kd.R_reads' H111.out).2.2 | (with_reducible refine Kd.C_alloc ?_ _) | (with_reducible refine Kd.C_drewN ?_ _) | (with_reducible refine Kd.C_drew ?_)))
  (case side4 => exact (Kd.R_reads' H111.out).2.1)
  rintro e w115 ⟨rfl, hb⟩
  refine ⟨_, rfl, ?_⟩
  have hs := below_step ((by repeat (first | (with_reducible first | exact Below.refl _ _ | apply below_alloc | apply pw_below_drewN | apply below_drew1) | exact Below.refl _ _)) : Below w110.heap.size w110 _) hb
  have Lw115 := Aside0.mk (below_size hs)
  have n_ := Aside0.mk (Kd.R_below H74.out hs)
  clear H74
  have H74 := n_
  clear n_
  have n_ := Aside0.mk (Kd.R_below H80.out hs)
  clear H80
  have H80 := n_
  clear n_
  have n_ := Aside0.mk (Kd.R_below H87.out hs)
  clear H87
  have H87 := n_
  clear n_
  have n_ := Aside0.mk (Kd.R_below H95.out hs)
  clear H95
  have H95 := n_
  clear n_
  have n_ := Aside0.mk (Kd.R_below H104.out hs)
  clear H104
  have H104 := n_
  clear n_
  have n_ := Aside0.mk (Kd.R_below H111.out hs)
  clear H111
  have H111 := n_
  clear n_
  have n_ := Aside0.mk (blk_below BKgb2.out hs)
  clear BKgb2
  have BKgb2 := n_
  clear n_
  have n_ := Aside0.mk (blk_below BKgb3.out hs)
  clear BKgb3
  have BKgb3 := n_
  clear n_
  have n_ := Aside0.mk (blk_below BKgb72.out hs)
  clear BKgb72
  have BKgb72 := n_
  clear n_
  have n_ := Aside0.mk (blk_below BKgb8.out hs)
  clear BKgb8
  have BKgb8 := n_
  clear n_
  have n_ := Aside0.mk (blk_below BKgb9.out hs)
  clear BKgb9
  have BKgb9 := n_
  clear n_
  have n_ := Aside0.mk (blk_below BKgb10.out hs)
  clear BKgb10
  have BKgb10 := n_
  clear n_
  have n_ := Aside0.mk (below_step HB.out hs)
  clear HB
  have HB := n_
  clear n_
  clear hs hb
  (try clear hczgb2_0 hczgb2_1 hfzgb2_0 hfzgb2_1)
  have hczgb2_0 : w115.cell? ⟨gb2, 0, none⟩ = some (.int .i64 n0) := (blk_cell BKgb2.out 0).trans rfl
  have hczgb2_1 : w115.cell? ⟨gb2, 1, none⟩ = some (.slice A0 l0.length c0) := (blk_cell BKgb2.out 1).trans rfl
  have hfzgb2_0 := blk_frozen BKgb2.out 0
  have hfzgb2_1 := blk_frozen BKgb2.out 1
  (try clear hczgb3_0 hczgb3_1 hfzgb3_0 hfzgb3_1)
  have hczgb3_0 : w115.cell? ⟨gb3, 0, none⟩ = some (.int .i64 n1) := (blk_cell BKgb3.out 0).trans rfl
  have hczgb3_1 : w115.cell? ⟨gb3, 1, none⟩ = some (.slice A1 l1.length c1) := (blk_cell BKgb3.out 1).trans rfl
  have hfzgb3_0 := blk_frozen BKgb3.out 0
  have hfzgb3_1 := blk_frozen BKgb3.out 1
  (try clear hczgb72_0 hczgb72_1 hfzgb72_0 hfzgb72_1)
  have hczgb72_0 : w115.cell? ⟨gb72, 0, none⟩ = some (.int .i64 g12) := (blk_cell BKgb72.out 0).trans rfl
  have hczgb72_1 : w115.cell? ⟨gb72, 1, none⟩ = some (.slice Ao75 g13.length co76) := (blk_cell BKgb72.out 1).trans rfl
  have hfzgb72_0 := blk_frozen BKgb72.out 0
  have hfzgb72_1 := blk_frozen BKgb72.out 1
  (try clear hczgb8_0 hczgb8_1 hfzgb8_0 hfzgb8_1)
  have hczgb8_0 : w115.cell? ⟨gb8, 0, none⟩ = some (.int .i64 n0) := (blk_cell BKgb8.out 0).trans rfl
  have hczgb8_1 : w115.cell? ⟨gb8, 1, none⟩ = some (.slice Ao81 l0.length co82) := (blk_cell BKgb8.out 1).trans rfl
  have hfzgb8_0 := blk_frozen BKgb8.out 0
  have hfzgb8_1 := blk_frozen BKgb8.out 1
  (try clear hczgb9_0 hczgb9_1 hfzgb9_0 hfzgb9_1)
  have hczgb9_0 : w115.cell? ⟨gb9, 0, none⟩ = some (.int .i64 n1) := (blk_cell BKgb9.out 0).trans rfl
  have hczgb9_1 : w115.cell? ⟨gb9, 1, none⟩ = some (.slice Ao88 l1.length co89) := (blk_cell BKgb9.out 1).trans rfl
  have hfzgb9_0 := blk_frozen BKgb9.out 0
  have hfzgb9_1 := blk_frozen BKgb9.out 1
  (try clear hczgb10_0 hczgb10_1 hfzgb10_0 hfzgb10_1)
  have hczgb10_0 : w115.cell? ⟨gb10, 0, none⟩ = some (.int .i64 g12) := (blk_cell BKgb10.out 0).trans rfl
  have hczgb10_1 : w115.cell? ⟨gb10, 1, none⟩ = some (.slice Ao96 g13.length co97) := (blk_cell BKgb10.out 1).trans rfl
  have hfzgb10_0 := blk_frozen BKgb10.out 0
  have hfzgb10_1 := blk_frozen BKgb10.out 1
  refine hK.out _ _ ⟨(blk_cell BKgb2.out 0).trans rfl, (blk_cell BKgb2.out 1).trans rfl, (blk_cell BKgb3.out 0).trans rfl, (blk_cell BKgb3.out 1).trans rfl, (blk_cell BKgb72.out 0).trans rfl, (blk_cell BKgb72.out 1).trans rfl, (blk_cell BKgb8.out 0).trans rfl, (blk_cell BKgb8.out 1).trans rfl, (blk_cell BKgb9.out 0).trans rfl, (blk_cell BKgb9.out 1).trans rfl, (blk_cell BKgb10.out 0).trans rfl, (blk_cell BKgb10.out 1).trans rfl⟩ (fun hHeld => ?_)
  clear hK K
  refine norm_ (a' := ?_) ?_ ?_
  rotate_left
  · show Act.put _ (some 62) _ = _
    simp only [Act.put, List.setIfInBounds_toArray, List.set_cons_zero, List.set_cons_succ, i64_w, i32_w]
    rfl
  refine pure_ (i := 4) (N := some 63) (v := ?_) (a' := ?_) #[true, true, true, true, true] rfl rfl (by kernel_rfl) (fun _ _ _ h => h) (Or.inl ⟨by rfl, ?_⟩) ?_ ?_
  rotate_left
  · intro w'
    go_simp
    with_reducible rfl
  rotate_left
  · simp only [Act.put, List.setIfInBounds_toArray, List.set_cons_zero, List.set_cons_succ, i64_w, i32_w]
    rfl
  refine done_ (by kernel_rfl) ?_
  go_wp2_with (first | ((with_reducible refine gate_callee (f := 20) rfl ?_); refine goesL_ (some 66) rfl rfl Try.func20 (by kernel_rfl) rfl #[.agg #[.int .i64 n0, .slice Ao81 l0.length co82], .int .i64 1] rfl (by (try simp only [List.map_toArray, List.map_cons, List.map_nil]); first | done | rfl | (simp only [List.length_drop, List.length_take]; rfl) | (simp only [iotaSS_length, iota_length]; done) | (simp only [iotaSS_length, iota_length]; rfl)) ?_; (with_reducible refine (laws_markBraid.calls Kx117 n0 (fun k_ => w77.heap.size ≤ k_ ∧ k_ < w79.heap.size) _ l0 1 x117 (iota 1 l0.length) w _ ?side1 ?side2 Ax117).mono ?_); (case side1 => exact (below_step HB.out ((by repeat (first | (with_reducible first | exact Below.refl _ _ | apply below_alloc | apply pw_below_drewN | apply below_drew1) | exact Below.refl _ _)) : Below w115.heap.size w115 _))); (case side2 => exact (by (with_reducible repeat (first | apply Kd.R_alloc | apply Kd.R_drewN | apply Kd.R_drew)); exact H80.out)); rintro e w116 ⟨rfl, ho, hb, hk⟩; refine ⟨_, rfl, ?_⟩; replace ho := Kd.R_mono (Kd.R_tight rfl ho) (fun k_ e_ => H80.out.1 k_ e_.symm); replace ho : Kd.R (Kd.int .i64) 2 w116 w.heap.size (fun k_ => w77.heap.size ≤ k_ ∧ k_ < w79.heap.size) (.slice Ao81 (iota 1 l0.length).length co82) (iota 1 l0.length) := (by rw [iota_length]; exact ho); have Lw116 := Aside0.mk (Nat.le_trans (below_size ((by repeat (first | (with_reducible first | exact Below.refl _ _ | apply below_alloc | apply pw_below_drewN | apply below_drew1) | exact Below.refl _ _)) : Below w115.heap.size w115 _)) hk.1); have n_ := Aside0.mk (Kd.R_kept (by (with_reducible repeat (first | apply Kd.R_alloc | apply Kd.R_drewN | apply Kd.R_drew)); exact H74.out) hk (fun k_ hk_ hs_ => by have := hk_.1; have := hk_.2; have := hs_.1; have := hs_.2; have := Lw1.out; have := Lw2.out; have := Lw5.out; have := Lw8.out; have := Lw73.out; have := Lw77.out; have := Lw79.out; have := Lw83.out; have := Lw84.out; have := Lw86.out; have := Lw90.out; have := Lw91.out; have := Lw94.out; have := Lw98.out; have := Lw99.out; have := Lw101.out; have := Lw103.out; have := Lw108.out; have := Lw110.out; have := Lw115.out; have := GEgb2.out; have := GLgb2.out; have := GEgb3.out; have := GLgb3.out; have := GEgb72.out; have := GLgb72.out; have := GEgb8.out; have := GLgb8.out; have := GEgb9.out; have := GLgb9.out; have := GEgb10.out; have := GLgb10.out; omega)); clear H74; have H74 := n_; clear n_; have n_ := Aside0.mk (Kd.R_kept (by (with_reducible repeat (first | apply Kd.R_alloc | apply Kd.R_drewN | apply Kd.R_drew)); exact H87.out) hk (fun k_ hk_ hs_ => by have := hk_.1; have := hk_.2; have := hs_.1; have := hs_.2; have := Lw1.out; have := Lw2.out; have := Lw5.out; have := Lw8.out; have := Lw73.out; have := Lw77.out; have := Lw79.out; have := Lw83.out; have := Lw84.out; have := Lw86.out; have := Lw90.out; have := Lw91.out; have := Lw94.out; have := Lw98.out; have := Lw99.out; have := Lw101.out; have := Lw103.out; have := Lw108.out; have := Lw110.out; have := Lw115.out; have := GEgb2.out; have := GLgb2.out; have := GEgb3.out; have := GLgb3.out; have := GEgb72.out; have := GLgb72.out; have := GEgb8.out; have := GLgb8.out; have := GEgb9.out; have := GLgb9.out; have := GEgb10.out; have := GLgb10.out; omega)); clear H87; have H87 := n_; clear n_; have n_ := Aside0.mk (Kd.R_kept (by (with_reducible repeat (first | apply Kd.R_alloc | apply Kd.R_drewN | apply Kd.R_drew)); exact H95.out) hk (fun k_ hk_ hs_ => by have := hk_.1; have := hk_.2; have := hs_.1; have := hs_.2; have := Lw1.out; have := Lw2.out; have := Lw5.out; have := Lw8.out; have := Lw73.out; have := Lw77.out; have := Lw79.out; have := Lw83.out; have := Lw84.out; have := Lw86.out; have := Lw90.out; have := Lw91.out; have := Lw94.out; have := Lw98.out; have := Lw99.out; have := Lw101.out; have := Lw103.out; have := Lw108.out; have := Lw110.out; have := Lw115.out; have := GEgb2.out; have := GLgb2.out; have := GEgb3.out; have := GLgb3.out; have := GEgb72.out; have := GLgb72.out; have := GEgb8.out; have := GLgb8.out; have := GEgb9.out; have := GLgb9.out; have := GEgb10.out; have := GLgb10.out; omega)); clear H95; have H95 := n_; clear n_; have n_ := Aside0.mk (Kd.R_kept (by (with_reducible repeat (first | apply Kd.R_alloc | apply Kd.R_drewN | apply Kd.R_drew)); exact H104.out) hk (fun k_ hk_ hs_ => by have := hk_.1; have := hk_.2; have := hs_.1; have := hs_.2; have := Lw1.out; have := Lw2.out; have := Lw5.out; have := Lw8.out; have := Lw73.out; have := Lw77.out; have := Lw79.out; have := Lw83.out; have := Lw84.out; have := Lw86.out; have := Lw90.out; have := Lw91.out; have := Lw94.out; have := Lw98.out; have := Lw99.out; have := Lw101.out; have := Lw103.out; have := Lw108.out; have := Lw110.out; have := Lw115.out; have := GEgb2.out; have := GLgb2.out; have := GEgb3.out; have := GLgb3.out; have := GEgb72.out; have := GLgb72.out; have := GEgb8.out; have := GLgb8.out; have := GEgb9.out; have := GLgb9.out; have := GEgb10.out; have := GLgb10.out; omega)); clear H104; have H104 := n_; clear n_; have n_ := Aside0.mk (Kd.R_kept (by (with_reducible repeat (first | apply Kd.R_alloc | apply Kd.R_drewN | apply Kd.R_drew)); exact H111.out) hk (fun k_ hk_ hs_ => by have := hk_.1; have := hk_.2; have := hs_.1; have := hs_.2; have := Lw1.out; have := Lw2.out; have := Lw5.out; have := Lw8.out; have := Lw73.out; have := Lw77.out; have := Lw79.out; have := Lw83.out; have := Lw84.out; have := Lw86.out; have := Lw90.out; have := Lw91.out; have := Lw94.out; have := Lw98.out; have := Lw99.out; have := Lw101.out; have := Lw103.out; have := Lw108.out; have := Lw110.out; have := Lw115.out; have := GEgb2.out; have := GLgb2.out; have := GEgb3.out; have := GLgb3.out; have := GEgb72.out; have := GLgb72.out; have := GEgb8.out; have := GLgb8.out; have := GEgb9.out; have := GLgb9.out; have := GEgb10.out; have := GLgb10.out; omega)); clear H111; have H111 := n_; clear n_; have n_ := Aside0.mk (blk_kept (blk_below BKgb2.out ((by repeat (first | (with_reducible first | exact Below.refl _ _ | apply below_alloc | apply pw_below_drewN | apply below_drew1) | exact Below.refl _ _)) : Below w115.heap.size w115 _)) hk (fun hs_ => by have := hs_.1; have := hs_.2; have := Lw1.out; have := Lw2.out; have := Lw5.out; have := Lw8.out; have := Lw73.out; have := Lw77.out; have := Lw79.out; have := Lw83.out; have := Lw84.out; have := Lw86.out; have := Lw90.out; have := Lw91.out; have := Lw94.out; have := Lw98.out; have := Lw99.out; have := Lw101.out; have := Lw103.out; have := Lw108.out; have := Lw110.out; have := Lw115.out; have := GEgb2.out; have := GLgb2.out; have := GEgb3.out; have := GLgb3.out; have := GEgb72.out; have := GLgb72.out; have := GEgb8.out; have := GLgb8.out; have := GEgb9.out; have := GLgb9.out; have := GEgb10.out; have := GLgb10.out; omega)); clear BKgb2; have BKgb2 := n_; clear n_; have n_ := Aside0.mk (blk_kept (blk_below BKgb3.out ((by repeat (first | (with_reducible first | exact Below.refl _ _ | apply below_alloc | apply pw_below_drewN | apply below_drew1) | exact Below.refl _ _)) : Below w115.heap.size w115 _)) hk (fun hs_ => by have := hs_.1; have := hs_.2; have := Lw1.out; have := Lw2.out; have := Lw5.out; have := Lw8.out; have := Lw73.out; have := Lw77.out; have := Lw79.out; have := Lw83.out; have := Lw84.out; have := Lw86.out; have := Lw90.out; have := Lw91.out; have := Lw94.out; have := Lw98.out; have := Lw99.out; have := Lw101.out; have := Lw103.out; have := Lw108.out; have := Lw110.out; have := Lw115.out; have := GEgb2.out; have := GLgb2.out; have := GEgb3.out; have := GLgb3.out; have := GEgb72.out; have := GLgb72.out; have := GEgb8.out; have := GLgb8.out; have := GEgb9.out; have := GLgb9.out; have := GEgb10.out; have := GLgb10.out; omega)); clear BKgb3; have BKgb3 := n_; clear n_; have n_ := Aside0.mk (blk_kept (blk_below BKgb72.out ((by repeat (first | (with_reducible first | exact Below.refl _ _ | apply below_alloc | apply pw_below_drewN | apply below_drew1) | exact Below.refl _ _)) : Below w115.heap.size w115 _)) hk (fun hs_ => by have := hs_.1; have := hs_.2; have := Lw1.out; have := Lw2.out; have := Lw5.out; have := Lw8.out; have := Lw73.out; have := Lw77.out; have := Lw79.out; have := Lw83.out; have := Lw84.out; have := Lw86.out; have := Lw90.out; have := Lw91.out; have := Lw94.out; have := Lw98.out; have := Lw99.out; have := Lw101.out; have := Lw103.out; have := Lw108.out; have := Lw110.out; have := Lw115.out; have := GEgb2.out; have := GLgb2.out; have := GEgb3.out; have := GLgb3.out; have := GEgb72.out; have := GLgb72.out; have := GEgb8.out; have := GLgb8.out; have := GEgb9.out; have := GLgb9.out; have := GEgb10.out; have := GLgb10.out; omega)); clear BKgb72; have BKgb72 := n_; clear n_; have n_ := Aside0.mk (blk_kept (blk_below BKgb8.out ((by repeat (first | (with_reducible first | exact Below.refl _ _ | apply below_alloc | apply pw_below_drewN | apply below_drew1) | exact Below.refl _ _)) : Below w115.heap.size w115 _)) hk (fun hs_ => by have := hs_.1; have := hs_.2; have := Lw1.out; have := Lw2.out; have := Lw5.out; have := Lw8.out; have := Lw73.out; have := Lw77.out; have := Lw79.out; have := Lw83.out; have := Lw84.out; have := Lw86.out; have := Lw90.out; have := Lw91.out; have := Lw94.out; have := Lw98.out; have := Lw99.out; have := Lw101.out; have := Lw103.out; have := Lw108.out; have := Lw110.out; have := Lw115.out; have := GEgb2.out; have := GLgb2.out; have := GEgb3.out; have := GLgb3.out; have := GEgb72.out; have := GLgb72.out; have := GEgb8.out; have := GLgb8.out; have := GEgb9.out; have := GLgb9.out; have := GEgb10.out; have := GLgb10.out; omega)); clear BKgb8; have BKgb8 := n_; clear n_; have n_ := Aside0.mk (blk_kept (blk_below BKgb9.out ((by repeat (first | (with_reducible first | exact Below.refl _ _ | apply below_alloc | apply pw_below_drewN | apply below_drew1) | exact Below.refl _ _)) : Below w115.heap.size w115 _)) hk (fun hs_ => by have := hs_.1; have := hs_.2; have := Lw1.out; have := Lw2.out; have := Lw5.out; have := Lw8.out; have := Lw73.out; have := Lw77.out; have := Lw79.out; have := Lw83.out; have := Lw84.out; have := Lw86.out; have := Lw90.out; have := Lw91.out; have := Lw94.out; have := Lw98.out; have := Lw99.out; have := Lw101.out; have := Lw103.out; have := Lw108.out; have := Lw110.out; have := Lw115.out; have := GEgb2.out; have := GLgb2.out; have := GEgb3.out; have := GLgb3.out; have := GEgb72.out; have := GLgb72.out; have := GEgb8.out; have := GLgb8.out; have := GEgb9.out; have := GLgb9.out; have := GEgb10.out; have := GLgb10.out; omega)); clear BKgb9; have BKgb9 := n_; clear n_; have n_ := Aside0.mk (blk_kept (blk_below BKgb10.out ((by repeat (first | (with_reducible first | exact Below.refl _ _ | apply below_alloc | apply pw_below_drewN | apply below_drew1) | exact Below.refl _ _)) : Below w115.heap.size w115 _)) hk (fun hs_ => by have := hs_.1; have := hs_.2; have := Lw1.out; have := Lw2.out; have := Lw5.out; have := Lw8.out; have := Lw73.out; have := Lw77.out; have := Lw79.out; have := Lw83.out; have := Lw84.out; have := Lw86.out; have := Lw90.out; have := Lw91.out; have := Lw94.out; have := Lw98.out; have := Lw99.out; have := Lw101.out; have := Lw103.out; have := Lw108.out; have := Lw110.out; have := Lw115.out; have := GEgb2.out; have := GLgb2.out; have := GEgb3.out; have := GLgb3.out; have := GEgb72.out; have := GLgb72.out; have := GEgb8.out; have := GLgb8.out; have := GEgb9.out; have := GLgb9.out; have := GEgb10.out; have := GLgb10.out; omega)); clear BKgb10; have BKgb10 := n_; clear n_; clear H80; have H80 := Aside0.mk ho; have n_ := Aside0.mk (hb); clear HB; have HB := n_; clear n_; clear ho hb hk; (try clear hczgb2_0 hczgb2_1 hfzgb2_0 hfzgb2_1); have hczgb2_0 : w116.cell? ⟨gb2, 0, none⟩ = some (.int .i64 n0) := (blk_cell BKgb2.out 0).trans rfl; have hczgb2_1 : w116.cell? ⟨gb2, 1, none⟩ = some (.slice A0 l0.length c0) := (blk_cell BKgb2.out 1).trans rfl; have hfzgb2_0 := blk_frozen BKgb2.out 0; have hfzgb2_1 := blk_frozen BKgb2.out 1; (try clear hczgb3_0 hczgb3_1 hfzgb3_0 hfzgb3_1); have hczgb3_0 : w116.cell? ⟨gb3, 0, none⟩ = some (.int .i64 n1) := (blk_cell BKgb3.out 0).trans rfl; have hczgb3_1 : w116.cell? ⟨gb3, 1, none⟩ = some (.slice A1 l1.length c1) := (blk_cell BKgb3.out 1).trans rfl; have hfzgb3_0 := blk_frozen BKgb3.out 0; have hfzgb3_1 := blk_frozen BKgb3.out 1; (try clear hczgb72_0 hczgb72_1 hfzgb72_0 hfzgb72_1); have hczgb72_0 : w116.cell? ⟨gb72, 0, none⟩ = some (.int .i64 g12) := (blk_cell BKgb72.out 0).trans rfl; have hczgb72_1 : w116.cell? ⟨gb72, 1, none⟩ = some (.slice Ao75 g13.length co76) := (blk_cell BKgb72.out 1).trans rfl; have hfzgb72_0 := blk_frozen BKgb72.out 0; have hfzgb72_1 := blk_frozen BKgb72.out 1; (try clear hczgb8_0 hczgb8_1 hfzgb8_0 hfzgb8_1); have hczgb8_0 : w116.cell? ⟨gb8, 0, none⟩ = some (.int .i64 n0) := (blk_cell BKgb8.out 0).trans rfl; have hczgb8_1 : w116.cell? ⟨gb8, 1, none⟩ = some (.slice Ao81 l0.length co82) := (blk_cell BKgb8.out 1).trans rfl; have hfzgb8_0 := blk_frozen BKgb8.out 0; have hfzgb8_1 := blk_frozen BKgb8.out 1; (try clear hczgb9_0 hczgb9_1 hfzgb9_0 hfzgb9_1); have hczgb9_0 : w116.cell? ⟨gb9, 0, none⟩ = some (.int .i64 n1) := (blk_cell BKgb9.out 0).trans rfl; have hczgb9_1 : w116.cell? ⟨gb9, 1, none⟩ = some (.slice Ao88 l1.length co89) := (blk_cell BKgb9.out 1).trans rfl; have hfzgb9_0 := blk_frozen BKgb9.out 0; have hfzgb9_1 := blk_frozen BKgb9.out 1; (try clear hczgb10_0 hczgb10_1 hfzgb10_0 hfzgb10_1); have hczgb10_0 : w116.cell? ⟨gb10, 0, none⟩ = some (.int .i64 g12) := (blk_cell BKgb10.out 0).trans rfl; have hczgb10_1 : w116.cell? ⟨gb10, 1, none⟩ = some (.slice Ao96 g13.length co97) := (blk_cell BKgb10.out 1).trans rfl; have hfzgb10_0 := blk_frozen BKgb10.out 0; have hfzgb10_1 := blk_frozen BKgb10.out 1) | ((with_reducible refine gate_callee (f := 20) rfl ?_); refine goesL_ (some 69) rfl rfl Try.func20 (by kernel_rfl) rfl #[.agg #[.int .i64 n1, .slice Ao88 l1.length co89], .int .i64 x117] rfl (by (try simp only [List.map_toArray, List.map_cons, List.map_nil]); first | done | rfl | (simp only [List.length_drop, List.length_take]; rfl) | (simp only [iotaSS_length, iota_length]; done) | (simp only [iotaSS_length, iota_length]; rfl)) ?_; (with_reducible refine (laws_markBraid.calls Kx119 n1 (fun k_ => w84.heap.size ≤ k_ ∧ k_ < w86.heap.size) _ l1 x117 x119 (iota x117 l1.length) w _ ?side1 ?side2 Ax119).mono ?_); (case side1 => exact (below_step HB.out ((by repeat (first | (with_reducible first | exact Below.refl _ _ | apply below_alloc | apply pw_below_drewN | apply below_drew1) | exact Below.refl _ _)) : Below w116.heap.size w116 _))); (case side2 => exact (by (with_reducible repeat (first | apply Kd.R_alloc | apply Kd.R_drewN | apply Kd.R_drew)); exact H87.out)); rintro e w118 ⟨rfl, ho, hb, hk⟩; refine ⟨_, rfl, ?_⟩; replace ho := Kd.R_mono (Kd.R_tight rfl ho) (fun k_ e_ => H87.out.1 k_ e_.symm); replace ho : Kd.R (Kd.int .i64) 2 w118 w.heap.size (fun k_ => w84.heap.size ≤ k_ ∧ k_ < w86.heap.size) (.slice Ao88 (iota x117 l1.length).length co89) (iota x117 l1.length) := (by rw [iota_length]; exact ho); have Lw118 := Aside0.mk (Nat.le_trans (below_size ((by repeat (first | (with_reducible first | exact Below.refl _ _ | apply below_alloc | apply pw_below_drewN | apply below_drew1) | exact Below.refl _ _)) : Below w116.heap.size w116 _)) hk.1); have n_ := Aside0.mk (Kd.R_kept (by (with_reducible repeat (first | apply Kd.R_alloc | apply Kd.R_drewN | apply Kd.R_drew)); exact H74.out) hk (fun k_ hk_ hs_ => by have := hk_.1; have := hk_.2; have := hs_.1; have := hs_.2; have := Lw1.out; have := Lw2.out; have := Lw5.out; have := Lw8.out; have := Lw73.out; have := Lw77.out; have := Lw79.out; have := Lw83.out; have := Lw84.out; have := Lw86.out; have := Lw90.out; have := Lw91.out; have := Lw94.out; have := Lw98.out; have := Lw99.out; have := Lw101.out; have := Lw103.out; have := Lw108.out; have := Lw110.out; have := Lw115.out; have := Lw116.out; have := GEgb2.out; have := GLgb2.out; have := GEgb3.out; have := GLgb3.out; have := GEgb72.out; have := GLgb72.out; have := GEgb8.out; have := GLgb8.out; have := GEgb9.out; have := GLgb9.out; have := GEgb10.out; have := GLgb10.out; omega)); clear H74; have H74 := n_; clear n_; have n_ := Aside0.mk (Kd.R_kept (by (with_reducible repeat (first | apply Kd.R_alloc | apply Kd.R_drewN | apply Kd.R_drew)); exact H80.out) hk (fun k_ hk_ hs_ => by have := hk_.1; have := hk_.2; have := hs_.1; have := hs_.2; have := Lw1.out; have := Lw2.out; have := Lw5.out; have := Lw8.out; have := Lw73.out; have := Lw77.out; have := Lw79.out; have := Lw83.out; have := Lw84.out; have := Lw86.out; have := Lw90.out; have := Lw91.out; have := Lw94.out; have := Lw98.out; have := Lw99.out; have := Lw101.out; have := Lw103.out; have := Lw108.out; have := Lw110.out; have := Lw115.out; have := Lw116.out; have := GEgb2.out; have := GLgb2.out; have := GEgb3.out; have := GLgb3.out; have := GEgb72.out; have := GLgb72.out; have := GEgb8.out; have := GLgb8.out; have := GEgb9.out; have := GLgb9.out; have := GEgb10.out; have := GLgb10.out; omega)); clear H80; have H80 := n_; clear n_; have n_ := Aside0.mk (Kd.R_kept (by (with_reducible repeat (first | apply Kd.R_alloc | apply Kd.R_drewN | apply Kd.R_drew)); exact H95.out) hk (fun k_ hk_ hs_ => by have := hk_.1; have := hk_.2; have := hs_.1; have := hs_.2; have := Lw1.out; have := Lw2.out; have := Lw5.out; have := Lw8.out; have := Lw73.out; have := Lw77.out; have := Lw79.out; have := Lw83.out; have := Lw84.out; have := Lw86.out; have := Lw90.out; have := Lw91.out; have := Lw94.out; have := Lw98.out; have := Lw99.out; have := Lw101.out; have := Lw103.out; have := Lw108.out; have := Lw110.out; have := Lw115.out; have := Lw116.out; have := GEgb2.out; have := GLgb2.out; have := GEgb3.out; have := GLgb3.out; have := GEgb72.out; have := GLgb72.out; have := GEgb8.out; have := GLgb8.out; have := GEgb9.out; have := GLgb9.out; have := GEgb10.out; have := GLgb10.out; omega)); clear H95; have H95 := n_; clear n_; have n_ := Aside0.mk (Kd.R_kept (by (with_reducible repeat (first | apply Kd.R_alloc | apply Kd.R_drewN | apply Kd.R_drew)); exact H104.out) hk (fun k_ hk_ hs_ => by have := hk_.1; have := hk_.2; have := hs_.1; have := hs_.2; have := Lw1.out; have := Lw2.out; have := Lw5.out; have := Lw8.out; have := Lw73.out; have := Lw77.out; have := Lw79.out; have := Lw83.out; have := Lw84.out; have := Lw86.out; have := Lw90.out; have := Lw91.out; have := Lw94.out; have := Lw98.out; have := Lw99.out; have := Lw101.out; have := Lw103.out; have := Lw108.out; have := Lw110.out; have := Lw115.out; have := Lw116.out; have := GEgb2.out; have := GLgb2.out; have := GEgb3.out; have := GLgb3.out; have := GEgb72.out; have := GLgb72.out; have := GEgb8.out; have := GLgb8.out; have := GEgb9.out; have := GLgb9.out; have := GEgb10.out; have := GLgb10.out; omega)); clear H104; have H104 := n_; clear n_; have n_ := Aside0.mk (Kd.R_kept (by (with_reducible repeat (first | apply Kd.R_alloc | apply Kd.R_drewN | apply Kd.R_drew)); exact H111.out) hk (fun k_ hk_ hs_ => by have := hk_.1; have := hk_.2; have := hs_.1; have := hs_.2; have := Lw1.out; have := Lw2.out; have := Lw5.out; have := Lw8.out; have := Lw73.out; have := Lw77.out; have := Lw79.out; have := Lw83.out; have := Lw84.out; have := Lw86.out; have := Lw90.out; have := Lw91.out; have := Lw94.out; have := Lw98.out; have := Lw99.out; have := Lw101.out; have := Lw103.out; have := Lw108.out; have := Lw110.out; have := Lw115.out; have := Lw116.out; have := GEgb2.out; have := GLgb2.out; have := GEgb3.out; have := GLgb3.out; have := GEgb72.out; have := GLgb72.out; have := GEgb8.out; have := GLgb8.out; have := GEgb9.out; have := GLgb9.out; have := GEgb10.out; have := GLgb10.out; omega)); clear H111; have H111 := n_; clear n_; have n_ := Aside0.mk (blk_kept (blk_below BKgb2.out ((by repeat (first | (with_reducible first | exact Below.refl _ _ | apply below_alloc | apply pw_below_drewN | apply below_drew1) | exact Below.refl _ _)) : Below w116.heap.size w116 _)) hk (fun hs_ => by have := hs_.1; have := hs_.2; have := Lw1.out; have := Lw2.out; have := Lw5.out; have := Lw8.out; have := Lw73.out; have := Lw77.out; have := Lw79.out; have := Lw83.out; have := Lw84.out; have := Lw86.out; have := Lw90.out; have := Lw91.out; have := Lw94.out; have := Lw98.out; have := Lw99.out; have := Lw101.out; have := Lw103.out; have := Lw108.out; have := Lw110.out; have := Lw115.out; have := Lw116.out; have := GEgb2.out; have := GLgb2.out; have := GEgb3.out; have := GLgb3.out; have := GEgb72.out; have := GLgb72.out; have := GEgb8.out; have := GLgb8.out; have := GEgb9.out; have := GLgb9.out; have := GEgb10.out; have := GLgb10.out; omega)); clear BKgb2; have BKgb2 := n_; clear n_; have n_ := Aside0.mk (blk_kept (blk_below BKgb3.out ((by repeat (first | (with_reducible first | exact Below.refl _ _ | apply below_alloc | apply pw_below_drewN | apply below_drew1) | exact Below.refl _ _)) : Below w116.heap.size w116 _)) hk (fun hs_ => by have := hs_.1; have := hs_.2; have := Lw1.out; have := Lw2.out; have := Lw5.out; have := Lw8.out; have := Lw73.out; have := Lw77.out; have := Lw79.out; have := Lw83.out; have := Lw84.out; have := Lw86.out; have := Lw90.out; have := Lw91.out; have := Lw94.out; have := Lw98.out; have := Lw99.out; have := Lw101.out; have := Lw103.out; have := Lw108.out; have := Lw110.out; have := Lw115.out; have := Lw116.out; have := GEgb2.out; have := GLgb2.out; have := GEgb3.out; have := GLgb3.out; have := GEgb72.out; have := GLgb72.out; have := GEgb8.out; have := GLgb8.out; have := GEgb9.out; have := GLgb9.out; have := GEgb10.out; have := GLgb10.out; omega)); clear BKgb3; have BKgb3 := n_; clear n_; have n_ := Aside0.mk (blk_kept (blk_below BKgb72.out ((by repeat (first | (with_reducible first | exact Below.refl _ _ | apply below_alloc | apply pw_below_drewN | apply below_drew1) | exact Below.refl _ _)) : Below w116.heap.size w116 _)) hk (fun hs_ => by have := hs_.1; have := hs_.2; have := Lw1.out; have := Lw2.out; have := Lw5.out; have := Lw8.out; have := Lw73.out; have := Lw77.out; have := Lw79.out; have := Lw83.out; have := Lw84.out; have := Lw86.out; have := Lw90.out; have := Lw91.out; have := Lw94.out; have := Lw98.out; have := Lw99.out; have := Lw101.out; have := Lw103.out; have := Lw108.out; have := Lw110.out; have := Lw115.out; have := Lw116.out; have := GEgb2.out; have := GLgb2.out; have := GEgb3.out; have := GLgb3.out; have := GEgb72.out; have := GLgb72.out; have := GEgb8.out; have := GLgb8.out; have := GEgb9.out; have := GLgb9.out; have := GEgb10.out; have := GLgb10.out; omega)); clear BKgb72; have BKgb72 := n_; clear n_; have n_ := Aside0.mk (blk_kept (blk_below BKgb8.out ((by repeat (first | (with_reducible first | exact Below.refl _ _ | apply below_alloc | apply pw_below_drewN | apply below_drew1) | exact Below.refl _ _)) : Below w116.heap.size w116 _)) hk (fun hs_ => by have := hs_.1; have := hs_.2; have := Lw1.out; have := Lw2.out; have := Lw5.out; have := Lw8.out; have := Lw73.out; have := Lw77.out; have := Lw79.out; have := Lw83.out; have := Lw84.out; have := Lw86.out; have := Lw90.out; have := Lw91.out; have := Lw94.out; have := Lw98.out; have := Lw99.out; have := Lw101.out; have := Lw103.out; have := Lw108.out; have := Lw110.out; have := Lw115.out; have := Lw116.out; have := GEgb2.out; have := GLgb2.out; have := GEgb3.out; have := GLgb3.out; have := GEgb72.out; have := GLgb72.out; have := GEgb8.out; have := GLgb8.out; have := GEgb9.out; have := GLgb9.out; have := GEgb10.out; have := GLgb10.out; omega)); clear BKgb8; have BKgb8 := n_; clear n_; have n_ := Aside0.mk (blk_kept (blk_below BKgb9.out ((by repeat (first | (with_reducible first | exact Below.refl _ _ | apply below_alloc | apply pw_below_drewN | apply below_drew1) | exact Below.refl _ _)) : Below w116.heap.size w116 _)) hk (fun hs_ => by have := hs_.1; have := hs_.2; have := Lw1.out; have := Lw2.out; have := Lw5.out; have := Lw8.out; have := Lw73.out; have := Lw77.out; have := Lw79.out; have := Lw83.out; have := Lw84.out; have := Lw86.out; have := Lw90.out; have := Lw91.out; have := Lw94.out; have := Lw98.out; have := Lw99.out; have := Lw101.out; have := Lw103.out; have := Lw108.out; have := Lw110.out; have := Lw115.out; have := Lw116.out; have := GEgb2.out; have := GLgb2.out; have := GEgb3.out; have := GLgb3.out; have := GEgb72.out; have := GLgb72.out; have := GEgb8.out; have := GLgb8.out; have := GEgb9.out; have := GLgb9.out; have := GEgb10.out; have := GLgb10.out; omega)); clear BKgb9; have BKgb9 := n_; clear n_; have n_ := Aside0.mk (blk_kept (blk_below BKgb10.out ((by repeat (first | (with_reducible first | exact Below.refl _ _ | apply below_alloc | apply pw_below_drewN | apply below_drew1) | exact Below.refl _ _)) : Below w116.heap.size w116 _)) hk (fun hs_ => by have := hs_.1; have := hs_.2; have := Lw1.out; have := Lw2.out; have := Lw5.out; have := Lw8.out; have := Lw73.out; have := Lw77.out; have := Lw79.out; have := Lw83.out; have := Lw84.out; have := Lw86.out; have := Lw90.out; have := Lw91.out; have := Lw94.out; have := Lw98.out; have := Lw99.out; have := Lw101.out; have := Lw103.out; have := Lw108.out; have := Lw110.out; have := Lw115.out; have := Lw116.out; have := GEgb2.out; have := GLgb2.out; have := GEgb3.out; have := GLgb3.out; have := GEgb72.out; have := GLgb72.out; have := GEgb8.out; have := GLgb8.out; have := GEgb9.out; have := GLgb9.out; have := GEgb10.out; have := GLgb10.out; omega)); clear BKgb10; have BKgb10 := n_; clear n_; clear H87; have H87 := Aside0.mk ho; have n_ := Aside0.mk (hb); clear HB; have HB := n_; clear n_; clear ho hb hk; (try clear hczgb2_0 hczgb2_1 hfzgb2_0 hfzgb2_1); have hczgb2_0 : w118.cell? ⟨gb2, 0, none⟩ = some (.int .i64 n0) := (blk_cell BKgb2.out 0).trans rfl; have hczgb2_1 : w118.cell? ⟨gb2, 1, none⟩ = some (.slice A0 l0.length c0) := (blk_cell BKgb2.out 1).trans rfl; have hfzgb2_0 := blk_frozen BKgb2.out 0; have hfzgb2_1 := blk_frozen BKgb2.out 1; (try clear hczgb3_0 hczgb3_1 hfzgb3_0 hfzgb3_1); have hczgb3_0 : w118.cell? ⟨gb3, 0, none⟩ = some (.int .i64 n1) := (blk_cell BKgb3.out 0).trans rfl; have hczgb3_1 : w118.cell? ⟨gb3, 1, none⟩ = some (.slice A1 l1.length c1) := (blk_cell BKgb3.out 1).trans rfl; have hfzgb3_0 := blk_frozen BKgb3.out 0; have hfzgb3_1 := blk_frozen BKgb3.out 1; (try clear hczgb72_0 hczgb72_1 hfzgb72_0 hfzgb72_1); have hczgb72_0 : w118.cell? ⟨gb72, 0, none⟩ = some (.int .i64 g12) := (blk_cell BKgb72.out 0).trans rfl; have hczgb72_1 : w118.cell? ⟨gb72, 1, none⟩ = some (.slice Ao75 g13.length co76) := (blk_cell BKgb72.out 1).trans rfl; have hfzgb72_0 := blk_frozen BKgb72.out 0; have hfzgb72_1 := blk_frozen BKgb72.out 1; (try clear hczgb8_0 hczgb8_1 hfzgb8_0 hfzgb8_1); have hczgb8_0 : w118.cell? ⟨gb8, 0, none⟩ = some (.int .i64 n0) := (blk_cell BKgb8.out 0).trans rfl; have hczgb8_1 : w118.cell? ⟨gb8, 1, none⟩ = some (.slice Ao81 l0.length co82) := (blk_cell BKgb8.out 1).trans rfl; have hfzgb8_0 := blk_frozen BKgb8.out 0; have hfzgb8_1 := blk_frozen BKgb8.out 1; (try clear hczgb9_0 hczgb9_1 hfzgb9_0 hfzgb9_1); have hczgb9_0 : w118.cell? ⟨gb9, 0, none⟩ = some (.int .i64 n1) := (blk_cell BKgb9.out 0).trans rfl; have hczgb9_1 : w118.cell? ⟨gb9, 1, none⟩ = some (.slice Ao88 l1.length co89) := (blk_cell BKgb9.out 1).trans rfl; have hfzgb9_0 := blk_frozen BKgb9.out 0; have hfzgb9_1 := blk_frozen BKgb9.out 1; (try clear hczgb10_0 hczgb10_1 hfzgb10_0 hfzgb10_1); have hczgb10_0 : w118.cell? ⟨gb10, 0, none⟩ = some (.int .i64 g12) := (blk_cell BKgb10.out 0).trans rfl; have hczgb10_1 : w118.cell? ⟨gb10, 1, none⟩ = some (.slice Ao96 g13.length co97) := (blk_cell BKgb10.out 1).trans rfl; have hfzgb10_0 := blk_frozen BKgb10.out 0; have hfzgb10_1 := blk_frozen BKgb10.out 1) | (go_at_call 19; refine calls_of_args (args' := #[.agg #[.int .i64 g12, .slice Ao96 g13.length co97], .agg #[.int .i64 g12, .slice Ao75 g13.length co76]]) (by first | done | rfl | (simp only [List.length_drop, List.length_take]; rfl) | (simp only [iotaSS_length, iota_length]; done) | (simp only [iotaSS_length, iota_length]; rfl)) ?_; (with_reducible refine (laws_eqBraid.calls Kj100 g12 _ _ g13 g12 _ _ g13 true _ ?side1 ?side2 ?side3 ?side4 Aj100).mono ?_); (case side1 => repeat (first | exact (Kd.R_reads' H95.out).2.2 | (with_reducible refine Kd.C_alloc ?_ _) | (with_reducible refine Kd.C_drewN ?_ _) | (with_reducible refine Kd.C_drew ?_))); (case side2 => exact (Kd.R_reads' H95.out).2.1); (case side3 => repeat (first | exact (Kd.R_reads' H74.out).2.2 | (with_reducible refine Kd.C_alloc ?_ _) | (with_reducible refine Kd.C_drewN ?_ _) | (with_reducible refine Kd.C_drew ?_))); (case side4 => exact (Kd.R_reads' H74.out).2.1); rintro e w120 ⟨rfl, hb⟩; have hs := below_step ((by repeat (first | (with_reducible first | exact Below.refl _ _ | apply below_alloc | apply pw_below_drewN | apply below_drew1) | exact Below.refl _ _)) : Below w118.heap.size w118 _) hb; have Lw120 := Aside0.mk (below_size hs); have n_ := Aside0.mk (Kd.R_below H74.out hs); clear H74; have H74 := n_; clear n_; have n_ := Aside0.mk (Kd.R_below H80.out hs); clear H80; have H80 := n_; clear n_; have n_ := Aside0.mk (Kd.R_below H87.out hs); clear H87; have H87 := n_; clear n_; have n_ := Aside0.mk (Kd.R_below H95.out hs); clear H95; have H95 := n_; clear n_; have n_ := Aside0.mk (Kd.R_below H104.out hs); clear H104; have H104 := n_; clear n_; have n_ := Aside0.mk (Kd.R_below H111.out hs); clear H111; have H111 := n_; clear n_; have n_ := Aside0.mk (blk_below BKgb2.out hs); clear BKgb2; have BKgb2 := n_; clear n_; have n_ := Aside0.mk (blk_below BKgb3.out hs); clear BKgb3; have BKgb3 := n_; clear n_; have n_ := Aside0.mk (blk_below BKgb72.out hs); clear BKgb72; have BKgb72 := n_; clear n_; have n_ := Aside0.mk (blk_below BKgb8.out hs); clear BKgb8; have BKgb8 := n_; clear n_; have n_ := Aside0.mk (blk_below BKgb9.out hs); clear BKgb9; have BKgb9 := n_; clear n_; have n_ := Aside0.mk (blk_below BKgb10.out hs); clear BKgb10; have BKgb10 := n_; clear n_; have n_ := Aside0.mk (below_step HB.out hs); clear HB; have HB := n_; clear n_; clear hs hb; (try clear hczgb2_0 hczgb2_1 hfzgb2_0 hfzgb2_1); have hczgb2_0 : w120.cell? ⟨gb2, 0, none⟩ = some (.int .i64 n0) := (blk_cell BKgb2.out 0).trans rfl; have hczgb2_1 : w120.cell? ⟨gb2, 1, none⟩ = some (.slice A0 l0.length c0) := (blk_cell BKgb2.out 1).trans rfl; have hfzgb2_0 := blk_frozen BKgb2.out 0; have hfzgb2_1 := blk_frozen BKgb2.out 1; (try clear hczgb3_0 hczgb3_1 hfzgb3_0 hfzgb3_1); have hczgb3_0 : w120.cell? ⟨gb3, 0, none⟩ = some (.int .i64 n1) := (blk_cell BKgb3.out 0).trans rfl; have hczgb3_1 : w120.cell? ⟨gb3, 1, none⟩ = some (.slice A1 l1.length c1) := (blk_cell BKgb3.out 1).trans rfl; have hfzgb3_0 := blk_frozen BKgb3.out 0; have hfzgb3_1 := blk_frozen BKgb3.out 1; (try clear hczgb72_0 hczgb72_1 hfzgb72_0 hfzgb72_1); have hczgb72_0 : w120.cell? ⟨gb72, 0, none⟩ = some (.int .i64 g12) := (blk_cell BKgb72.out 0).trans rfl; have hczgb72_1 : w120.cell? ⟨gb72, 1, none⟩ = some (.slice Ao75 g13.length co76) := (blk_cell BKgb72.out 1).trans rfl; have hfzgb72_0 := blk_frozen BKgb72.out 0; have hfzgb72_1 := blk_frozen BKgb72.out 1; (try clear hczgb8_0 hczgb8_1 hfzgb8_0 hfzgb8_1); have hczgb8_0 : w120.cell? ⟨gb8, 0, none⟩ = some (.int .i64 n0) := (blk_cell BKgb8.out 0).trans rfl; have hczgb8_1 : w120.cell? ⟨gb8, 1, none⟩ = some (.slice Ao81 l0.length co82) := (blk_cell BKgb8.out 1).trans rfl; have hfzgb8_0 := blk_frozen BKgb8.out 0; have hfzgb8_1 := blk_frozen BKgb8.out 1; (try clear hczgb9_0 hczgb9_1 hfzgb9_0 hfzgb9_1); have hczgb9_0 : w120.cell? ⟨gb9, 0, none⟩ = some (.int .i64 n1) := (blk_cell BKgb9.out 0).trans rfl; have hczgb9_1 : w120.cell? ⟨gb9, 1, none⟩ = some (.slice Ao88 l1.length co89) := (blk_cell BKgb9.out 1).trans rfl; have hfzgb9_0 := blk_frozen BKgb9.out 0; have hfzgb9_1 := blk_frozen BKgb9.out 1; (try clear hczgb10_0 hczgb10_1 hfzgb10_0 hfzgb10_1); have hczgb10_0 : w120.cell? ⟨gb10, 0, none⟩ = some (.int .i64 g12) := (blk_cell BKgb10.out 0).trans rfl; have hczgb10_1 : w120.cell? ⟨gb10, 1, none⟩ = some (.slice Ao96 g13.length co97) := (blk_cell BKgb10.out 1).trans rfl; have hfzgb10_0 := blk_frozen BKgb10.out 0; have hfzgb10_1 := blk_frozen BKgb10.out 1) | ((with_reducible refine gate_callee (f := 20) rfl ?_); refine goesL_ (some 85) rfl rfl Try.func20 (by kernel_rfl) rfl #[.agg #[.int .i64 g12, .slice Ao96 g13.length co97], .int .i64 1] rfl (by (try simp only [List.map_toArray, List.map_cons, List.map_nil]); first | done | rfl | (simp only [List.length_drop, List.length_take]; rfl) | (simp only [iotaSS_length, iota_length]; done) | (simp only [iotaSS_length, iota_length]; rfl)) ?_; (with_reducible refine (laws_markBraid.calls Kx122 g12 (fun k_ => w91.heap.size ≤ k_ ∧ k_ < w94.heap.size) _ g13 1 x122 (iota 1 g13.length) w _ ?side1 ?side2 Ax122).mono ?_); (case side1 => exact (below_step HB.out ((by repeat (first | (with_reducible first | exact Below.refl _ _ | apply below_alloc | apply pw_below_drewN | apply below_drew1) | exact Below.refl _ _)) : Below w120.heap.size w120 _))); (case side2 => exact (by (with_reducible repeat (first | apply Kd.R_alloc | apply Kd.R_drewN | apply Kd.R_drew)); exact H95.out)); rintro e w121 ⟨rfl, ho, hb, hk⟩; refine ⟨_, rfl, ?_⟩; replace ho := Kd.R_mono (Kd.R_tight rfl ho) (fun k_ e_ => H95.out.1 k_ e_.symm); replace ho : Kd.R (Kd.int .i64) 2 w121 w.heap.size (fun k_ => w91.heap.size ≤ k_ ∧ k_ < w94.heap.size) (.slice Ao96 (iota 1 g13.length).length co97) (iota 1 g13.length) := (by rw [iota_length]; exact ho); have Lw121 := Aside0.mk (Nat.le_trans (below_size ((by repeat (first | (with_reducible first | exact Below.refl _ _ | apply below_alloc | apply pw_below_drewN | apply below_drew1) | exact Below.refl _ _)) : Below w120.heap.size w120 _)) hk.1); have n_ := Aside0.mk (Kd.R_kept (by (with_reducible repeat (first | apply Kd.R_alloc | apply Kd.R_drewN | apply Kd.R_drew)); exact H74.out) hk (fun k_ hk_ hs_ => by have := hk_.1; have := hk_.2; have := hs_.1; have := hs_.2; have := Lw1.out; have := Lw2.out; have := Lw5.out; have := Lw8.out; have := Lw73.out; have := Lw77.out; have := Lw79.out; have := Lw83.out; have := Lw84.out; have := Lw86.out; have := Lw90.out; have := Lw91.out; have := Lw94.out; have := Lw98.out; have := Lw99.out; have := Lw101.out; have := Lw103.out; have := Lw108.out; have := Lw110.out; have := Lw115.out; have := Lw116.out; have := Lw118.out; have := Lw120.out; have := GEgb2.out; have := GLgb2.out; have := GEgb3.out; have := GLgb3.out; have := GEgb72.out; have := GLgb72.out; have := GEgb8.out; have := GLgb8.out; have := GEgb9.out; have := GLgb9.out; have := GEgb10.out; have := GLgb10.out; omega)); clear H74; have H74 := n_; clear n_; have n_ := Aside0.mk (Kd.R_kept (by (with_reducible repeat (first | apply Kd.R_alloc | apply Kd.R_drewN | apply Kd.R_drew)); exact H80.out) hk (fun k_ hk_ hs_ => by have := hk_.1; have := hk_.2; have := hs_.1; have := hs_.2; have := Lw1.out; have := Lw2.out; have := Lw5.out; have := Lw8.out; have := Lw73.out; have := Lw77.out; have := Lw79.out; have := Lw83.out; have := Lw84.out; have := Lw86.out; have := Lw90.out; have := Lw91.out; have := Lw94.out; have := Lw98.out; have := Lw99.out; have := Lw101.out; have := Lw103.out; have := Lw108.out; have := Lw110.out; have := Lw115.out; have := Lw116.out; have := Lw118.out; have := Lw120.out; have := GEgb2.out; have := GLgb2.out; have := GEgb3.out; have := GLgb3.out; have := GEgb72.out; have := GLgb72.out; have := GEgb8.out; have := GLgb8.out; have := GEgb9.out; have := GLgb9.out; have := GEgb10.out; have := GLgb10.out; omega)); clear H80; have H80 := n_; clear n_; have n_ := Aside0.mk (Kd.R_kept (by (with_reducible repeat (first | apply Kd.R_alloc | apply Kd.R_drewN | apply Kd.R_drew)); exact H87.out) hk (fun k_ hk_ hs_ => by have := hk_.1; have := hk_.2; have := hs_.1; have := hs_.2; have := Lw1.out; have := Lw2.out; have := Lw5.out; have := Lw8.out; have := Lw73.out; have := Lw77.out; have := Lw79.out; have := Lw83.out; have := Lw84.out; have := Lw86.out; have := Lw90.out; have := Lw91.out; have := Lw94.out; have := Lw98.out; have := Lw99.out; have := Lw101.out; have := Lw103.out; have := Lw108.out; have := Lw110.out; have := Lw115.out; have := Lw116.out; have := Lw118.out; have := Lw120.out; have := GEgb2.out; have := GLgb2.out; have := GEgb3.out; have := GLgb3.out; have := GEgb72.out; have := GLgb72.out; have := GEgb8.out; have := GLgb8.out; have := GEgb9.out; have := GLgb9.out; have := GEgb10.out; have := GLgb10.out; omega)); clear H87; have H87 := n_; clear n_; have n_ := Aside0.mk (Kd.R_kept (by (with_reducible repeat (first | apply Kd.R_alloc | apply Kd.R_drewN | apply Kd.R_drew)); exact H104.out) hk (fun k_ hk_ hs_ => by have := hk_.1; have := hk_.2; have := hs_.1; have := hs_.2; have := Lw1.out; have := Lw2.out; have := Lw5.out; have := Lw8.out; have := Lw73.out; have := Lw77.out; have := Lw79.out; have := Lw83.out; have := Lw84.out; have := Lw86.out; have := Lw90.out; have := Lw91.out; have := Lw94.out; have := Lw98.out; have := Lw99.out; have := Lw101.out; have := Lw103.out; have := Lw108.out; have := Lw110.out; have := Lw115.out; have := Lw116.out; have := Lw118.out; have := Lw120.out; have := GEgb2.out; have := GLgb2.out; have := GEgb3.out; have := GLgb3.out; have := GEgb72.out; have := GLgb72.out; have := GEgb8.out; have := GLgb8.out; have := GEgb9.out; have := GLgb9.out; have := GEgb10.out; have := GLgb10.out; omega)); clear H104; have H104 := n_; clear n_; have n_ := Aside0.mk (Kd.R_kept (by (with_reducible repeat (first | apply Kd.R_alloc | apply Kd.R_drewN | apply Kd.R_drew)); exact H111.out) hk (fun k_ hk_ hs_ => by have := hk_.1; have := hk_.2; have := hs_.1; have := hs_.2; have := Lw1.out; have := Lw2.out; have := Lw5.out; have := Lw8.out; have := Lw73.out; have := Lw77.out; have := Lw79.out; have := Lw83.out; have := Lw84.out; have := Lw86.out; have := Lw90.out; have := Lw91.out; have := Lw94.out; have := Lw98.out; have := Lw99.out; have := Lw101.out; have := Lw103.out; have := Lw108.out; have := Lw110.out; have := Lw115.out; have := Lw116.out; have := Lw118.out; have := Lw120.out; have := GEgb2.out; have := GLgb2.out; have := GEgb3.out; have := GLgb3.out; have := GEgb72.out; have := GLgb72.out; have := GEgb8.out; have := GLgb8.out; have := GEgb9.out; have := GLgb9.out; have := GEgb10.out; have := GLgb10.out; omega)); clear H111; have H111 := n_; clear n_; have n_ := Aside0.mk (blk_kept (blk_below BKgb2.out ((by repeat (first | (with_reducible first | exact Below.refl _ _ | apply below_alloc | apply pw_below_drewN | apply below_drew1) | exact Below.refl _ _)) : Below w120.heap.size w120 _)) hk (fun hs_ => by have := hs_.1; have := hs_.2; have := Lw1.out; have := Lw2.out; have := Lw5.out; have := Lw8.out; have := Lw73.out; have := Lw77.out; have := Lw79.out; have := Lw83.out; have := Lw84.out; have := Lw86.out; have := Lw90.out; have := Lw91.out; have := Lw94.out; have := Lw98.out; have := Lw99.out; have := Lw101.out; have := Lw103.out; have := Lw108.out; have := Lw110.out; have := Lw115.out; have := Lw116.out; have := Lw118.out; have := Lw120.out; have := GEgb2.out; have := GLgb2.out; have := GEgb3.out; have := GLgb3.out; have := GEgb72.out; have := GLgb72.out; have := GEgb8.out; have := GLgb8.out; have := GEgb9.out; have := GLgb9.out; have := GEgb10.out; have := GLgb10.out; omega)); clear BKgb2; have BKgb2 := n_; clear n_; have n_ := Aside0.mk (blk_kept (blk_below BKgb3.out ((by repeat (first | (with_reducible first | exact Below.refl _ _ | apply below_alloc | apply pw_below_drewN | apply below_drew1) | exact Below.refl _ _)) : Below w120.heap.size w120 _)) hk (fun hs_ => by have := hs_.1; have := hs_.2; have := Lw1.out; have := Lw2.out; have := Lw5.out; have := Lw8.out; have := Lw73.out; have := Lw77.out; have := Lw79.out; have := Lw83.out; have := Lw84.out; have := Lw86.out; have := Lw90.out; have := Lw91.out; have := Lw94.out; have := Lw98.out; have := Lw99.out; have := Lw101.out; have := Lw103.out; have := Lw108.out; have := Lw110.out; have := Lw115.out; have := Lw116.out; have := Lw118.out; have := Lw120.out; have := GEgb2.out; have := GLgb2.out; have := GEgb3.out; have := GLgb3.out; have := GEgb72.out; have := GLgb72.out; have := GEgb8.out; have := GLgb8.out; have := GEgb9.out; have := GLgb9.out; have := GEgb10.out; have := GLgb10.out; omega)); clear BKgb3; have BKgb3 := n_; clear n_; have n_ := Aside0.mk (blk_kept (blk_below BKgb72.out ((by repeat (first | (with_reducible first | exact Below.refl _ _ | apply below_alloc | apply pw_below_drewN | apply below_drew1) | exact Below.refl _ _)) : Below w120.heap.size w120 _)) hk (fun hs_ => by have := hs_.1; have := hs_.2; have := Lw1.out; have := Lw2.out; have := Lw5.out; have := Lw8.out; have := Lw73.out; have := Lw77.out; have := Lw79.out; have := Lw83.out; have := Lw84.out; have := Lw86.out; have := Lw90.out; have := Lw91.out; have := Lw94.out; have := Lw98.out; have := Lw99.out; have := Lw101.out; have := Lw103.out; have := Lw108.out; have := Lw110.out; have := Lw115.out; have := Lw116.out; have := Lw118.out; have := Lw120.out; have := GEgb2.out; have := GLgb2.out; have := GEgb3.out; have := GLgb3.out; have := GEgb72.out; have := GLgb72.out; have := GEgb8.out; have := GLgb8.out; have := GEgb9.out; have := GLgb9.out; have := GEgb10.out; have := GLgb10.out; omega)); clear BKgb72; have BKgb72 := n_; clear n_; have n_ := Aside0.mk (blk_kept (blk_below BKgb8.out ((by repeat (first | (with_reducible first | exact Below.refl _ _ | apply below_alloc | apply pw_below_drewN | apply below_drew1) | exact Below.refl _ _)) : Below w120.heap.size w120 _)) hk (fun hs_ => by have := hs_.1; have := hs_.2; have := Lw1.out; have := Lw2.out; have := Lw5.out; have := Lw8.out; have := Lw73.out; have := Lw77.out; have := Lw79.out; have := Lw83.out; have := Lw84.out; have := Lw86.out; have := Lw90.out; have := Lw91.out; have := Lw94.out; have := Lw98.out; have := Lw99.out; have := Lw101.out; have := Lw103.out; have := Lw108.out; have := Lw110.out; have := Lw115.out; have := Lw116.out; have := Lw118.out; have := Lw120.out; have := GEgb2.out; have := GLgb2.out; have := GEgb3.out; have := GLgb3.out; have := GEgb72.out; have := GLgb72.out; have := GEgb8.out; have := GLgb8.out; have := GEgb9.out; have := GLgb9.out; have := GEgb10.out; have := GLgb10.out; omega)); clear BKgb8; have BKgb8 := n_; clear n_; have n_ := Aside0.mk (blk_kept (blk_below BKgb9.out ((by repeat (first | (with_reducible first | exact Below.refl _ _ | apply below_alloc | apply pw_below_drewN | apply below_drew1) | exact Below.refl _ _)) : Below w120.heap.size w120 _)) hk (fun hs_ => by have := hs_.1; have := hs_.2; have := Lw1.out; have := Lw2.out; have := Lw5.out; have := Lw8.out; have := Lw73.out; have := Lw77.out; have := Lw79.out; have := Lw83.out; have := Lw84.out; have := Lw86.out; have := Lw90.out; have := Lw91.out; have := Lw94.out; have := Lw98.out; have := Lw99.out; have := Lw101.out; have := Lw103.out; have := Lw108.out; have := Lw110.out; have := Lw115.out; have := Lw116.out; have := Lw118.out; have := Lw120.out; have := GEgb2.out; have := GLgb2.out; have := GEgb3.out; have := GLgb3.out; have := GEgb72.out; have := GLgb72.out; have := GEgb8.out; have := GLgb8.out; have := GEgb9.out; have := GLgb9.out; have := GEgb10.out; have := GLgb10.out; omega)); clear BKgb9; have BKgb9 := n_; clear n_; have n_ := Aside0.mk (blk_kept (blk_below BKgb10.out ((by repeat (first | (with_reducible first | exact Below.refl _ _ | apply below_alloc | apply pw_below_drewN | apply below_drew1) | exact Below.refl _ _)) : Below w120.heap.size w120 _)) hk (fun hs_ => by have := hs_.1; have := hs_.2; have := Lw1.out; have := Lw2.out; have := Lw5.out; have := Lw8.out; have := Lw73.out; have := Lw77.out; have := Lw79.out; have := Lw83.out; have := Lw84.out; have := Lw86.out; have := Lw90.out; have := Lw91.out; have := Lw94.out; have := Lw98.out; have := Lw99.out; have := Lw101.out; have := Lw103.out; have := Lw108.out; have := Lw110.out; have := Lw115.out; have := Lw116.out; have := Lw118.out; have := Lw120.out; have := GEgb2.out; have := GLgb2.out; have := GEgb3.out; have := GLgb3.out; have := GEgb72.out; have := GLgb72.out; have := GEgb8.out; have := GLgb8.out; have := GEgb9.out; have := GLgb9.out; have := GEgb10.out; have := GLgb10.out; omega)); clear BKgb10; have BKgb10 := n_; clear n_; clear H95; have H95 := Aside0.mk ho; have n_ := Aside0.mk (hb); clear HB; have HB := n_; clear n_; clear ho hb hk; (try clear hczgb2_0 hczgb2_1 hfzgb2_0 hfzgb2_1); have hczgb2_0 : w121.cell? ⟨gb2, 0, none⟩ = some (.int .i64 n0) := (blk_cell BKgb2.out 0).trans rfl; have hczgb2_1 : w121.cell? ⟨gb2, 1, none⟩ = some (.slice A0 l0.length c0) := (blk_cell BKgb2.out 1).trans rfl; have hfzgb2_0 := blk_frozen BKgb2.out 0; have hfzgb2_1 := blk_frozen BKgb2.out 1; (try clear hczgb3_0 hczgb3_1 hfzgb3_0 hfzgb3_1); have hczgb3_0 : w121.cell? ⟨gb3, 0, none⟩ = some (.int .i64 n1) := (blk_cell BKgb3.out 0).trans rfl; have hczgb3_1 : w121.cell? ⟨gb3, 1, none⟩ = some (.slice A1 l1.length c1) := (blk_cell BKgb3.out 1).trans rfl; have hfzgb3_0 := blk_frozen BKgb3.out 0; have hfzgb3_1 := blk_frozen BKgb3.out 1; (try clear hczgb72_0 hczgb72_1 hfzgb72_0 hfzgb72_1); have hczgb72_0 : w121.cell? ⟨gb72, 0, none⟩ = some (.int .i64 g12) := (blk_cell BKgb72.out 0).trans rfl; have hczgb72_1 : w121.cell? ⟨gb72, 1, none⟩ = some (.slice Ao75 g13.length co76) := (blk_cell BKgb72.out 1).trans rfl; have hfzgb72_0 := blk_frozen BKgb72.out 0; have hfzgb72_1 := blk_frozen BKgb72.out 1; (try clear hczgb8_0 hczgb8_1 hfzgb8_0 hfzgb8_1); have hczgb8_0 : w121.cell? ⟨gb8, 0, none⟩ = some (.int .i64 n0) := (blk_cell BKgb8.out 0).trans rfl; have hczgb8_1 : w121.cell? ⟨gb8, 1, none⟩ = some (.slice Ao81 l0.length co82) := (blk_cell BKgb8.out 1).trans rfl; have hfzgb8_0 := blk_frozen BKgb8.out 0; have hfzgb8_1 := blk_frozen BKgb8.out 1; (try clear hczgb9_0 hczgb9_1 hfzgb9_0 hfzgb9_1); have hczgb9_0 : w121.cell? ⟨gb9, 0, none⟩ = some (.int .i64 n1) := (blk_cell BKgb9.out 0).trans rfl; have hczgb9_1 : w121.cell? ⟨gb9, 1, none⟩ = some (.slice Ao88 l1.length co89) := (blk_cell BKgb9.out 1).trans rfl; have hfzgb9_0 := blk_frozen BKgb9.out 0; have hfzgb9_1 := blk_frozen BKgb9.out 1; (try clear hczgb10_0 hczgb10_1 hfzgb10_0 hfzgb10_1); have hczgb10_0 : w121.cell? ⟨gb10, 0, none⟩ = some (.int .i64 g12) := (blk_cell BKgb10.out 0).trans rfl; have hczgb10_1 : w121.cell? ⟨gb10, 1, none⟩ = some (.slice Ao96 g13.length co97) := (blk_cell BKgb10.out 1).trans rfl; have hfzgb10_0 := blk_frozen BKgb10.out 0; have hfzgb10_1 := blk_frozen BKgb10.out 1) | ((with_reducible refine gate_callee (f := 21) rfl ?_); refine goesL_ (some 88) rfl rfl Try.func21 (by kernel_rfl) rfl #[.agg #[.int .i64 g12, .slice Ao96 (iota 1 g13.length).length co97], .int .i64 1] rfl (by (try simp only [List.map_toArray, List.map_cons, List.map_nil]); first | done | rfl | (simp only [List.length_drop, List.length_take]; rfl) | (simp only [iotaSS_length, iota_length]; done) | (simp only [iotaSS_length, iota_length]; rfl)) ?_; (with_reducible refine (laws_heldBraid.calls Kj123 g12 _ _ ((iota 1 g13.length)) 1 x122 _ ?side1 ?side2 Aj123).mono ?_); (case side1 => repeat (first | exact (Kd.R_reads' H95.out).2.2 | (with_reducible refine Kd.C_alloc ?_ _) | (with_reducible refine Kd.C_drewN ?_ _) | (with_reducible refine Kd.C_drew ?_))); (case side2 => exact (Kd.R_reads' H95.out).2.1); rintro e w124 ⟨rfl, hb⟩; refine ⟨_, rfl, ?_⟩; have hs := below_step ((by repeat (first | (with_reducible first | exact Below.refl _ _ | apply below_alloc | apply pw_below_drewN | apply below_drew1) | exact Below.refl _ _)) : Below w121.heap.size w121 _) hb; have Lw124 := Aside0.mk (below_size hs); have n_ := Aside0.mk (Kd.R_below H74.out hs); clear H74; have H74 := n_; clear n_; have n_ := Aside0.mk (Kd.R_below H80.out hs); clear H80; have H80 := n_; clear n_; have n_ := Aside0.mk (Kd.R_below H87.out hs); clear H87; have H87 := n_; clear n_; have n_ := Aside0.mk (Kd.R_below H95.out hs); clear H95; have H95 := n_; clear n_; have n_ := Aside0.mk (Kd.R_below H104.out hs); clear H104; have H104 := n_; clear n_; have n_ := Aside0.mk (Kd.R_below H111.out hs); clear H111; have H111 := n_; clear n_; have n_ := Aside0.mk (blk_below BKgb2.out hs); clear BKgb2; have BKgb2 := n_; clear n_; have n_ := Aside0.mk (blk_below BKgb3.out hs); clear BKgb3; have BKgb3 := n_; clear n_; have n_ := Aside0.mk (blk_below BKgb72.out hs); clear BKgb72; have BKgb72 := n_; clear n_; have n_ := Aside0.mk (blk_below BKgb8.out hs); clear BKgb8; have BKgb8 := n_; clear n_; have n_ := Aside0.mk (blk_below BKgb9.out hs); clear BKgb9; have BKgb9 := n_; clear n_; have n_ := Aside0.mk (blk_below BKgb10.out hs); clear BKgb10; have BKgb10 := n_; clear n_; have n_ := Aside0.mk (below_step HB.out hs); clear HB; have HB := n_; clear n_; clear hs hb; (try clear hczgb2_0 hczgb2_1 hfzgb2_0 hfzgb2_1); have hczgb2_0 : w124.cell? ⟨gb2, 0, none⟩ = some (.int .i64 n0) := (blk_cell BKgb2.out 0).trans rfl; have hczgb2_1 : w124.cell? ⟨gb2, 1, none⟩ = some (.slice A0 l0.length c0) := (blk_cell BKgb2.out 1).trans rfl; have hfzgb2_0 := blk_frozen BKgb2.out 0; have hfzgb2_1 := blk_frozen BKgb2.out 1; (try clear hczgb3_0 hczgb3_1 hfzgb3_0 hfzgb3_1); have hczgb3_0 : w124.cell? ⟨gb3, 0, none⟩ = some (.int .i64 n1) := (blk_cell BKgb3.out 0).trans rfl; have hczgb3_1 : w124.cell? ⟨gb3, 1, none⟩ = some (.slice A1 l1.length c1) := (blk_cell BKgb3.out 1).trans rfl; have hfzgb3_0 := blk_frozen BKgb3.out 0; have hfzgb3_1 := blk_frozen BKgb3.out 1; (try clear hczgb72_0 hczgb72_1 hfzgb72_0 hfzgb72_1); have hczgb72_0 : w124.cell? ⟨gb72, 0, none⟩ = some (.int .i64 g12) := (blk_cell BKgb72.out 0).trans rfl; have hczgb72_1 : w124.cell? ⟨gb72, 1, none⟩ = some (.slice Ao75 g13.length co76) := (blk_cell BKgb72.out 1).trans rfl; have hfzgb72_0 := blk_frozen BKgb72.out 0; have hfzgb72_1 := blk_frozen BKgb72.out 1; (try clear hczgb8_0 hczgb8_1 hfzgb8_0 hfzgb8_1); have hczgb8_0 : w124.cell? ⟨gb8, 0, none⟩ = some (.int .i64 n0) := (blk_cell BKgb8.out 0).trans rfl; have hczgb8_1 : w124.cell? ⟨gb8, 1, none⟩ = some (.slice Ao81 l0.length co82) := (blk_cell BKgb8.out 1).trans rfl; have hfzgb8_0 := blk_frozen BKgb8.out 0; have hfzgb8_1 := blk_frozen BKgb8.out 1; (try clear hczgb9_0 hczgb9_1 hfzgb9_0 hfzgb9_1); have hczgb9_0 : w124.cell? ⟨gb9, 0, none⟩ = some (.int .i64 n1) := (blk_cell BKgb9.out 0).trans rfl; have hczgb9_1 : w124.cell? ⟨gb9, 1, none⟩ = some (.slice Ao88 l1.length co89) := (blk_cell BKgb9.out 1).trans rfl; have hfzgb9_0 := blk_frozen BKgb9.out 0; have hfzgb9_1 := blk_frozen BKgb9.out 1; (try clear hczgb10_0 hczgb10_1 hfzgb10_0 hfzgb10_1); have hczgb10_0 : w124.cell? ⟨gb10, 0, none⟩ = some (.int .i64 g12) := (blk_cell BKgb10.out 0).trans rfl; have hczgb10_1 : w124.cell? ⟨gb10, 1, none⟩ = some (.slice Ao96 g13.length co97) := (blk_cell BKgb10.out 1).trans rfl; have hfzgb10_0 := blk_frozen BKgb10.out 0; have hfzgb10_1 := blk_frozen BKgb10.out 1))
  clear H104 H111
  obtain ⟨F_, hF0, hmv, hun⟩ : ∃ F_ : World → Prop, F_ w124 ∧ (∀ W_ W2_, F_ W_ → Below W_.heap.size W_ W2_ → F_ W2_) ∧ (∀ W_, F_ W_ → (Below w.heap.size w W_) ∧ (Kd.R (Kd.int .i64) 2 W_ w.heap.size (fun k_ => w8.heap.size ≤ k_ ∧ k_ < w73.heap.size ∧ k_ ≠ gb72) (.slice Ao75 g13.length co76) g13) ∧ (Kd.R (Kd.int .i64) 2 W_ w.heap.size (fun k_ => w77.heap.size ≤ k_ ∧ k_ < w79.heap.size) (.slice Ao81 (iota 1 l0.length).length co82) ((iota 1 l0.length))) ∧ (Kd.R (Kd.int .i64) 2 W_ w.heap.size (fun k_ => w84.heap.size ≤ k_ ∧ k_ < w86.heap.size) (.slice Ao88 (iota x117 l1.length).length co89) ((iota x117 l1.length))) ∧ (Kd.R (Kd.int .i64) 2 W_ w.heap.size (fun k_ => w91.heap.size ≤ k_ ∧ k_ < w94.heap.size) (.slice Ao96 (iota 1 g13.length).length co97) ((iota 1 g13.length))) ∧ (W_.heap[gb2]? = some (.cells #[.int .i64 n0, .slice A0 l0.length c0] 24 (0, 0))) ∧ (W_.heap[gb3]? = some (.cells #[.int .i64 n1, .slice A1 l1.length c1] 24 (0, 0))) ∧ (W_.heap[gb72]? = some (.cells #[.int .i64 g12, .slice Ao75 g13.length co76] 26 (0, 0))) ∧ (W_.heap[gb8]? = some (.cells #[.int .i64 n0, .slice Ao81 l0.length co82] 26 (0, 0))) ∧ (W_.heap[gb9]? = some (.cells #[.int .i64 n1, .slice Ao88 l1.length co89] 26 (0, 0))) ∧ (W_.heap[gb10]? = some (.cells #[.int .i64 g12, .slice Ao96 g13.length co97] 26 (0, 0)))) := ⟨fun W_ => (Below w.heap.size w W_) ∧ (Kd.R (Kd.int .i64) 2 W_ w.heap.size (fun k_ => w8.heap.size ≤ k_ ∧ k_ < w73.heap.size ∧ k_ ≠ gb72) (.slice Ao75 g13.length co76) g13) ∧ (Kd.R (Kd.int .i64) 2 W_ w.heap.size (fun k_ => w77.heap.size ≤ k_ ∧ k_ < w79.heap.size) (.slice Ao81 (iota 1 l0.length).length co82) ((iota 1 l0.length))) ∧ (Kd.R (Kd.int .i64) 2 W_ w.heap.size (fun k_ => w84.heap.size ≤ k_ ∧ k_ < w86.heap.size) (.slice Ao88 (iota x117 l1.length).length co89) ((iota x117 l1.length))) ∧ (Kd.R (Kd.int .i64) 2 W_ w.heap.size (fun k_ => w91.heap.size ≤ k_ ∧ k_ < w94.heap.size) (.slice Ao96 (iota 1 g13.length).length co97) ((iota 1 g13.length))) ∧ (W_.heap[gb2]? = some (.cells #[.int .i64 n0, .slice A0 l0.length c0] 24 (0, 0))) ∧ (W_.heap[gb3]? = some (.cells #[.int .i64 n1, .slice A1 l1.length c1] 24 (0, 0))) ∧ (W_.heap[gb72]? = some (.cells #[.int .i64 g12, .slice Ao75 g13.length co76] 26 (0, 0))) ∧ (W_.heap[gb8]? = some (.cells #[.int .i64 n0, .slice Ao81 l0.length co82] 26 (0, 0))) ∧ (W_.heap[gb9]? = some (.cells #[.int .i64 n1, .slice Ao88 l1.length co89] 26 (0, 0))) ∧ (W_.heap[gb10]? = some (.cells #[.int .i64 g12, .slice Ao96 g13.length co97] 26 (0, 0))), ⟨HB.out, H74.out, H80.out, H87.out, H95.out, BKgb2.out, BKgb3.out, BKgb72.out, BKgb8.out, BKgb9.out, BKgb10.out⟩, fun W_ W2_ h hb_ => ⟨below_step h.1 hb_, Kd.R_below h.2.1 hb_, Kd.R_below h.2.2.1 hb_, Kd.R_below h.2.2.2.1 hb_, Kd.R_below h.2.2.2.2.1 hb_, blk_below h.2.2.2.2.2.1 hb_, blk_below h.2.2.2.2.2.2.1 hb_, blk_below h.2.2.2.2.2.2.2.1 hb_, blk_below h.2.2.2.2.2.2.2.2.1 hb_, blk_below h.2.2.2.2.2.2.2.2.2.1 hb_, blk_below h.2.2.2.2.2.2.2.2.2.2 hb_⟩, fun _ h => h⟩
  have HF := Aside0.mk hF0
  have HMV := Aside0.mk hmv
  have HUN := Aside0.mk hun
  clear hF0 hmv hun
  clear HB H74 H80 H87 H95 BKgb2 BKgb3 BKgb72 BKgb8 BKgb9 BKgb10
  (try clear hczgb2_0 hfzgb2_0 hczgb2_1 hfzgb2_1 hczgb3_0 hfzgb3_0 hczgb3_1 hfzgb3_1 hczgb72_0 hfzgb72_0 hczgb72_1 hfzgb72_1 hczgb8_0 hfzgb8_0 hczgb8_1 hfzgb8_1 hczgb9_0 hfzgb9_0 hczgb9_1 hfzgb9_1 hczgb10_0 hfzgb10_0 hczgb10_1 hfzgb10_1)
  refine start_ (n := 11) (S := fun w' => w'.cell? ⟨gb2, 0, none⟩ = some (.int .i64 n0) ∧ w'.cell? ⟨gb2, 1, none⟩ = some (.slice A0 l0.length c0) ∧ w'.cell? ⟨gb3, 0, none⟩ = some (.int .i64 n1) ∧ w'.cell? ⟨gb3, 1, none⟩ = some (.slice A1 l1.length c1) ∧ w'.cell? ⟨gb72, 0, none⟩ = some (.int .i64 g12) ∧ w'.cell? ⟨gb72, 1, none⟩ = some (.slice Ao75 g13.length co76) ∧ w'.cell? ⟨gb8, 0, none⟩ = some (.int .i64 n0) ∧ w'.cell? ⟨gb8, 1, none⟩ = some (.slice Ao81 l0.length co82) ∧ w'.cell? ⟨gb9, 0, none⟩ = some (.int .i64 n1) ∧ w'.cell? ⟨gb9, 1, none⟩ = some (.slice Ao88 l1.length co89) ∧ w'.cell? ⟨gb10, 0, none⟩ = some (.int .i64 g12) ∧ w'.cell? ⟨gb10, 1, none⟩ = some (.slice Ao96 g13.length co97)) (ds := []) #[false, false, false, false, false, false, false, false, false, false, false] (by kernel_rfl) rfl rfl ⟨(blk_cell ((HUN.out _ ((HMV.out w124 _ HF.out (by repeat (first | (with_reducible first | exact Below.refl _ _ | apply below_alloc | apply pw_below_drewN | apply below_drew1) | exact Below.refl _ _))))).2.2.2.2.2.1) 0).trans rfl, (blk_cell ((HUN.out _ ((HMV.out w124 _ HF.out (by repeat (first | (with_reducible first | exact Below.refl _ _ | apply below_alloc | apply pw_below_drewN | apply below_drew1) | exact Below.refl _ _))))).2.2.2.2.2.1) 1).trans rfl, (blk_cell ((HUN.out _ ((HMV.out w124 _ HF.out (by repeat (first | (with_reducible first | exact Below.refl _ _ | apply below_alloc | apply pw_below_drewN | apply below_drew1) | exact Below.refl _ _))))).2.2.2.2.2.2.1) 0).trans rfl, (blk_cell ((HUN.out _ ((HMV.out w124 _ HF.out (by repeat (first | (with_reducible first | exact Below.refl _ _ | apply below_alloc | apply pw_below_drewN | apply below_drew1) | exact Below.refl _ _))))).2.2.2.2.2.2.1) 1).trans rfl, (blk_cell ((HUN.out _ ((HMV.out w124 _ HF.out (by repeat (first | (with_reducible first | exact Below.refl _ _ | apply below_alloc | apply pw_below_drewN | apply below_drew1) | exact Below.refl _ _))))).2.2.2.2.2.2.2.1) 0).trans rfl, (blk_cell ((HUN.out _ ((HMV.out w124 _ HF.out (by repeat (first | (with_reducible first | exact Below.refl _ _ | apply below_alloc | apply pw_below_drewN | apply below_drew1) | exact Below.refl _ _))))).2.2.2.2.2.2.2.1) 1).trans rfl, (blk_cell ((HUN.out _ ((HMV.out w124 _ HF.out (by repeat (first | (with_reducible first | exact Below.refl _ _ | apply below_alloc | apply pw_below_drewN | apply below_drew1) | exact Below.refl _ _))))).2.2.2.2.2.2.2.2.1) 0).trans rfl, (blk_cell ((HUN.out _ ((HMV.out w124 _ HF.out (by repeat (first | (with_reducible first | exact Below.refl _ _ | apply below_alloc | apply pw_below_drewN | apply below_drew1) | exact Below.refl _ _))))).2.2.2.2.2.2.2.2.1) 1).trans rfl, (blk_cell ((HUN.out _ ((HMV.out w124 _ HF.out (by repeat (first | (with_reducible first | exact Below.refl _ _ | apply below_alloc | apply pw_below_drewN | apply below_drew1) | exact Below.refl _ _))))).2.2.2.2.2.2.2.2.2.1) 0).trans rfl, (blk_cell ((HUN.out _ ((HMV.out w124 _ HF.out (by repeat (first | (with_reducible first | exact Below.refl _ _ | apply below_alloc | apply pw_below_drewN | apply below_drew1) | exact Below.refl _ _))))).2.2.2.2.2.2.2.2.2.1) 1).trans rfl, (blk_cell ((HUN.out _ ((HMV.out w124 _ HF.out (by repeat (first | (with_reducible first | exact Below.refl _ _ | apply below_alloc | apply pw_below_drewN | apply below_drew1) | exact Below.refl _ _))))).2.2.2.2.2.2.2.2.2.2) 0).trans rfl, (blk_cell ((HUN.out _ ((HMV.out w124 _ HF.out (by repeat (first | (with_reducible first | exact Below.refl _ _ | apply below_alloc | apply pw_below_drewN | apply below_drew1) | exact Below.refl _ _))))).2.2.2.2.2.2.2.2.2.2) 1).trans rfl⟩ (fun hHeld => ?_)
  refine take_ (i := 0) (N := some 95) (v := ?_) (a' := ?_) #[true, false, false, false, false, false, false, false, false, false, false] rfl rfl (by kernel_rfl) (fun _ _ _ h => h) (Or.inl ⟨by rfl, ?_⟩) hHeld ?_ ?_
  rotate_left
  · rintro w' ⟨s0, s1, s2, s3, s4, s5, s6, s7, s8, s9, s10, s11⟩
    go_simp
    with_reducible rfl
  rotate_left
  · simp only [Act.put, List.setIfInBounds_toArray, List.set_cons_zero, List.set_cons_succ, i64_w, i32_w]
    rfl
  refine take_ (i := 2) (N := some 97) (v := ?_) (a' := ?_) #[true, false, true, false, false, false, false, false, false, false, false] rfl rfl (by kernel_rfl) (fun _ _ _ h => h) (Or.inl ⟨by rfl, ?_⟩) hHeld ?_ ?_
  rotate_left
  · rintro w' ⟨s0, s1, s2, s3, s4, s5, s6, s7, s8, s9, s10, s11⟩
    go_simp
    with_reducible rfl
  rotate_left
  · simp only [Act.put, List.setIfInBounds_toArray, List.set_cons_zero, List.set_cons_succ, i64_w, i32_w]
    rfl
  refine join_ (σ := Value × Value × Value × Nat) 2 #[true, true, true, true, true, true, true, true, true, false, false] (fun s_ => [(96, .agg #[.int .i64 n0, s_.1]), (98, .agg #[.int .i64 n1, s_.2.1]), (99, .tuple #[.agg #[.int .i64 g12, s_.2.2.1], .int .i64 g14]), (15, .pointer (some ⟨s_.2.2.2, 0, none⟩)), (94, .tuple #[.agg #[.int .i64 g12, s_.2.2.1], .int .i64 g14]), (100, .agg #[.int .i64 g12, s_.2.2.1]), (101, .int .i64 g14)]) (fun s_ w' => (w'.cell? ⟨gb2, 0, none⟩ = some (.int .i64 n0) ∧ w'.cell? ⟨gb2, 1, none⟩ = some (.slice A0 l0.length c0) ∧ w'.cell? ⟨gb3, 0, none⟩ = some (.int .i64 n1) ∧ w'.cell? ⟨gb3, 1, none⟩ = some (.slice A1 l1.length c1) ∧ w'.cell? ⟨gb72, 0, none⟩ = some (.int .i64 g12) ∧ w'.cell? ⟨gb72, 1, none⟩ = some (.slice Ao75 g13.length co76) ∧ w'.cell? ⟨gb8, 0, none⟩ = some (.int .i64 n0) ∧ w'.cell? ⟨gb8, 1, none⟩ = some (.slice Ao81 l0.length co82) ∧ w'.cell? ⟨gb9, 0, none⟩ = some (.int .i64 n1) ∧ w'.cell? ⟨gb9, 1, none⟩ = some (.slice Ao88 l1.length co89) ∧ w'.cell? ⟨gb10, 0, none⟩ = some (.int .i64 g12) ∧ w'.cell? ⟨gb10, 1, none⟩ = some (.slice Ao96 g13.length co97)) ∧ F_ w' ∧ (Kd.R (Kd.int .i64) 2 w' w.heap.size (fun k_ => w124.heap.size ≤ k_ ∧ k_ < w'.heap.size ∧ k_ ≠ s_.2.2.2) s_.2.2.1 g13) ∧ (w'.heap[s_.2.2.2]? = some (.cells #[.int .i64 0, .slice none 0 0] 26 (0, 0))) ∧ (w124.heap.size ≤ s_.2.2.2) ∧ (s_.2.2.2 < w'.heap.size) ∧ (w124.heap.size ≤ w'.heap.size)) ?_ ?_
  rotate_left
  · intro hCont
    refine two_ (i := 1) (j := 8) (Ni := some 96) (Nj := some 15) #[true, true, true, false, false, false, false, false, false, false, false] #[true, false, true, false, false, false, false, false, true, false, false] rfl rfl rfl rfl (by kernel_rfl) (by decide) (by decide) (fun K hK => ?_) (fun K hK => ?_)
    · skip
      refine goes_ Try.func17 (by kernel_rfl) rfl #[.agg #[.int .i64 n0, .slice A0 l0.length c0]] (by rfl) rfl rfl (by (try simp only [List.map_toArray, List.map_cons, List.map_nil]); first | done | rfl | (simp only [List.length_drop, List.length_take]; rfl) | (simp only [iotaSS_length, iota_length]; done) | (simp only [iotaSS_length, iota_length]; rfl)) ?_
      (with_reducible refine (laws_toBraid.calls Kj10 n0 _ _ l0 n0 l0 _ ?side1 ?side2 Aj10).mono ?_)
      (case side1 => exact Kd.C_below HR0.out ((HUN.out _ (HMV.out w124 _ HF.out (by repeat (first | (with_reducible first | exact Below.refl _ _ | apply below_alloc | apply pw_below_drewN | apply below_drew1) | exact Below.refl _ _)))).1))
      (case side2 => exact HC0.out)
      rintro e w126 ⟨v127, rfl, ho, hb⟩
      refine ⟨_, rfl, ?_⟩
      have hs := below_step (by repeat (first | (with_reducible first | exact Below.refl _ _ | apply below_alloc | apply pw_below_drewN | apply below_drew1) | exact Below.refl _ _) : Below w124.heap.size w124 _) hb
      have Lw126 := Aside0.mk (below_size hs)
      have n_ := Aside0.mk (HMV.out _ _ HF.out hs)
      clear HF
      have HF := n_
      clear n_
      have HV128 := Aside0.mk (Kd.R_mono (Kd.R_bound ho) (fun k_ h_ => (⟨Nat.le_trans (below_size (by repeat (first | (with_reducible first | exact Below.refl _ _ | apply below_alloc | apply pw_below_drewN | apply below_drew1) | exact Below.refl _ _) : Below w124.heap.size w124 _)) h_.2.1, h_.2.2.1⟩ : w124.heap.size ≤ k_ ∧ k_ < w126.heap.size)))
      obtain ⟨Ao129, co130, rfl⟩ := Kd.R_slice HV128.out
      clear hs hb ho
      have hu_ := HUN.out _ HF.out
      refine hK.out _ _ ⟨(blk_cell hu_.2.2.2.2.2.1 0).trans rfl, (blk_cell hu_.2.2.2.2.2.1 1).trans rfl, (blk_cell hu_.2.2.2.2.2.2.1 0).trans rfl, (blk_cell hu_.2.2.2.2.2.2.1 1).trans rfl, (blk_cell hu_.2.2.2.2.2.2.2.1 0).trans rfl, (blk_cell hu_.2.2.2.2.2.2.2.1 1).trans rfl, (blk_cell hu_.2.2.2.2.2.2.2.2.1 0).trans rfl, (blk_cell hu_.2.2.2.2.2.2.2.2.1 1).trans rfl, (blk_cell hu_.2.2.2.2.2.2.2.2.2.1 0).trans rfl, (blk_cell hu_.2.2.2.2.2.2.2.2.2.1 1).trans rfl, (blk_cell hu_.2.2.2.2.2.2.2.2.2.2 0).trans rfl, (blk_cell hu_.2.2.2.2.2.2.2.2.2.2 1).trans rfl⟩ (fun hHeld => ?_)
      clear hK K hu_
      refine norm_ (a' := ?_) ?_ ?_
      rotate_left
      · show Act.put _ (some 96) _ = _
        simp only [Act.put, List.setIfInBounds_toArray, List.set_cons_zero, List.set_cons_succ, i64_w, i32_w]
        rfl
      refine two_ (i := 3) (j := 8) (Ni := some 98) (Nj := some 15) #[true, true, true, true, false, false, false, false, false, false, false] #[true, true, true, false, false, false, false, false, true, false, false] rfl rfl rfl rfl (by kernel_rfl) (by decide) (by decide) (fun K hK => ?_) (fun K hK => ?_)
      · skip
        refine goes_ Try.func17 (by kernel_rfl) rfl #[.agg #[.int .i64 n1, .slice A1 l1.length c1]] (by rfl) rfl rfl (by (try simp only [List.map_toArray, List.map_cons, List.map_nil]); first | done | rfl | (simp only [List.length_drop, List.length_take]; rfl) | (simp only [iotaSS_length, iota_length]; done) | (simp only [iotaSS_length, iota_length]; rfl)) ?_
        (with_reducible refine (laws_toBraid.calls Kj11 n1 _ _ l1 n1 l1 _ ?side1 ?side2 Aj11).mono ?_)
        (case side1 => exact Kd.C_below HR1.out ((HUN.out _ (HMV.out w126 _ HF.out (by repeat (first | (with_reducible first | exact Below.refl _ _ | apply below_alloc | apply pw_below_drewN | apply below_drew1) | exact Below.refl _ _)))).1))
        (case side2 => exact HC1.out)
        rintro e w131 ⟨v132, rfl, ho, hb⟩
        refine ⟨_, rfl, ?_⟩
        have hs := below_step (by repeat (first | (with_reducible first | exact Below.refl _ _ | apply below_alloc | apply pw_below_drewN | apply below_drew1) | exact Below.refl _ _) : Below w126.heap.size w126 _) hb
        have Lw131 := Aside0.mk (below_size hs)
        have n_ := Aside0.mk (HMV.out _ _ HF.out hs)
        clear HF
        have HF := n_
        clear n_
        have n_ := Aside0.mk (Kd.R_below HV128.out hs)
        clear HV128
        have HV128 := n_
        clear n_
        have HV133 := Aside0.mk (Kd.R_mono (Kd.R_bound ho) (fun k_ h_ => (⟨Nat.le_trans (below_size (by repeat (first | (with_reducible first | exact Below.refl _ _ | apply below_alloc | apply pw_below_drewN | apply below_drew1) | exact Below.refl _ _) : Below w126.heap.size w126 _)) h_.2.1, h_.2.2.1⟩ : w126.heap.size ≤ k_ ∧ k_ < w131.heap.size)))
        obtain ⟨Ao134, co135, rfl⟩ := Kd.R_slice HV133.out
        clear hs hb ho
        have hu_ := HUN.out _ HF.out
        refine hK.out _ _ ⟨(blk_cell hu_.2.2.2.2.2.1 0).trans rfl, (blk_cell hu_.2.2.2.2.2.1 1).trans rfl, (blk_cell hu_.2.2.2.2.2.2.1 0).trans rfl, (blk_cell hu_.2.2.2.2.2.2.1 1).trans rfl, (blk_cell hu_.2.2.2.2.2.2.2.1 0).trans rfl, (blk_cell hu_.2.2.2.2.2.2.2.1 1).trans rfl, (blk_cell hu_.2.2.2.2.2.2.2.2.1 0).trans rfl, (blk_cell hu_.2.2.2.2.2.2.2.2.1 1).trans rfl, (blk_cell hu_.2.2.2.2.2.2.2.2.2.1 0).trans rfl, (blk_cell hu_.2.2.2.2.2.2.2.2.2.1 1).trans rfl, (blk_cell hu_.2.2.2.2.2.2.2.2.2.2 0).trans rfl, (blk_cell hu_.2.2.2.2.2.2.2.2.2.2 1).trans rfl⟩ (fun hHeld => ?_)
        clear hK K hu_
        refine norm_ (a' := ?_) ?_ ?_
        rotate_left
        · show Act.put _ (some 98) _ = _
          simp only [Act.put, List.setIfInBounds_toArray, List.set_cons_zero, List.set_cons_succ, i64_w, i32_w]
          rfl
        refine two_ (i := 4) (j := 8) (Ni := some 99) (Nj := some 15) #[true, true, true, true, true, false, false, false, false, false, false] #[true, true, true, true, false, false, false, false, true, false, false] rfl rfl rfl rfl (by kernel_rfl) (by decide) (by decide) (fun K hK => ?_) (fun K hK => ?_)
        · skip
          refine goes_ Try.func18 (by kernel_rfl) rfl #[.agg #[.int .i64 n0, .slice Ao129 l0.length co130], .agg #[.int .i64 n1, .slice Ao134 l1.length co135]] (by rfl) rfl rfl (by (try simp only [List.map_toArray, List.map_cons, List.map_nil]); first | done | rfl | (simp only [List.length_drop, List.length_take]; rfl) | (simp only [iotaSS_length, iota_length]; done) | (simp only [iotaSS_length, iota_length]; rfl)) ?_
          (with_reducible refine (impl_ConjugateWord.calls Kj92 n0 _ _ l0 n1 _ _ l1 g12 g13 g14 _ ?side1 ?side2 ?side3 ?side4 Aj92).mono ?_)
          (case side1 => repeat (first | exact (Kd.R_reads' HV128.out).2.2 | (with_reducible refine Kd.C_alloc ?_ _) | (with_reducible refine Kd.C_drewN ?_ _) | (with_reducible refine Kd.C_drew ?_)))
          (case side2 => exact (Kd.R_reads' HV128.out).2.1)
          (case side3 => repeat (first | exact (Kd.R_reads' HV133.out).2.2 | (with_reducible refine Kd.C_alloc ?_ _) | (with_reducible refine Kd.C_drewN ?_ _) | (with_reducible refine Kd.C_drew ?_)))
          (case side4 => exact (Kd.R_reads' HV133.out).2.1)
          rintro e w136 ⟨v137, rfl, ho, hb⟩
          refine ⟨_, rfl, ?_⟩
          have hs := below_step (by repeat (first | (with_reducible first | exact Below.refl _ _ | apply below_alloc | apply pw_below_drewN | apply below_drew1) | exact Below.refl _ _) : Below w131.heap.size w131 _) hb
          have Lw136 := Aside0.mk (below_size hs)
          have hFo_ := HF
          have n_ := Aside0.mk (HMV.out _ _ HF.out hs)
          clear HF
          have HF := n_
          clear n_
          have n_ := Aside0.mk (Kd.R_below HV128.out hs)
          clear HV128
          have HV128 := n_
          clear n_
          have n_ := Aside0.mk (Kd.R_below HV133.out hs)
          clear HV133
          have HV133 := n_
          clear n_
          have HV138 := Aside0.mk (Kd.R_mono (Kd.R_bound ho) (fun k_ h_ => (⟨Nat.le_trans (below_size (by repeat (first | (with_reducible first | exact Below.refl _ _ | apply below_alloc | apply pw_below_drewN | apply below_drew1) | exact Below.refl _ _) : Below w131.heap.size w131 _)) h_.2.1, h_.2.2.1⟩ : w131.heap.size ≤ k_ ∧ k_ < w136.heap.size)))
          obtain ⟨Ao139, co140, rfl⟩ := Kd.R_slice HV138.out
          have n_ := Aside0.mk (Kd.R_lower HV138.out (below_size ((HUN.out _ (HMV.out _ _ hFo_.out (by repeat (first | (with_reducible first | exact Below.refl _ _ | apply below_alloc | apply pw_below_drewN | apply below_drew1) | exact Below.refl _ _) : Below w131.heap.size w131 _))).1)))
          clear HV138
          have HV138 := n_
          clear n_
          clear hs hb ho
          have hu_ := HUN.out _ HF.out
          refine hK.out _ _ ⟨(blk_cell hu_.2.2.2.2.2.1 0).trans rfl, (blk_cell hu_.2.2.2.2.2.1 1).trans rfl, (blk_cell hu_.2.2.2.2.2.2.1 0).trans rfl, (blk_cell hu_.2.2.2.2.2.2.1 1).trans rfl, (blk_cell hu_.2.2.2.2.2.2.2.1 0).trans rfl, (blk_cell hu_.2.2.2.2.2.2.2.1 1).trans rfl, (blk_cell hu_.2.2.2.2.2.2.2.2.1 0).trans rfl, (blk_cell hu_.2.2.2.2.2.2.2.2.1 1).trans rfl, (blk_cell hu_.2.2.2.2.2.2.2.2.2.1 0).trans rfl, (blk_cell hu_.2.2.2.2.2.2.2.2.2.1 1).trans rfl, (blk_cell hu_.2.2.2.2.2.2.2.2.2.2 0).trans rfl, (blk_cell hu_.2.2.2.2.2.2.2.2.2.2 1).trans rfl⟩ (fun hHeld => ?_)
          clear hK K hu_
          refine norm_ (a' := ?_) ?_ ?_
          rotate_left
          · show Act.put _ (some 99) _ = _
            simp only [Act.put, List.setIfInBounds_toArray, List.set_cons_zero, List.set_cons_succ, i64_w, i32_w]
            rfl
          refine pure_ (i := 5) (N := some 94) (v := ?_) (a' := ?_) #[true, true, true, true, true, true, false, false, false, false, false] rfl rfl (by kernel_rfl) (fun _ _ _ h => h) (Or.inl ⟨by rfl, ?_⟩) ?_ ?_
          rotate_left
          · intro w'
            go_simp
            with_reducible rfl
          rotate_left
          · simp only [Act.put, List.setIfInBounds_toArray, List.set_cons_zero, List.set_cons_succ, i64_w, i32_w]
            rfl
          refine pure_ (i := 6) (N := some 100) (v := ?_) (a' := ?_) #[true, true, true, true, true, true, true, false, false, false, false] rfl rfl (by kernel_rfl) (fun _ _ _ h => h) (Or.inl ⟨by rfl, ?_⟩) ?_ ?_
          rotate_left
          · intro w'
            go_simp
            with_reducible rfl
          rotate_left
          · simp only [Act.put, List.setIfInBounds_toArray, List.set_cons_zero, List.set_cons_succ, i64_w, i32_w]
            rfl
          refine pure_ (i := 7) (N := some 101) (v := ?_) (a' := ?_) #[true, true, true, true, true, true, true, true, false, false, false] rfl rfl (by kernel_rfl) (fun _ _ _ h => h) (Or.inl ⟨by rfl, ?_⟩) ?_ ?_
          rotate_left
          · intro w'
            go_simp
            with_reducible rfl
          rotate_left
          · simp only [Act.put, List.setIfInBounds_toArray, List.set_cons_zero, List.set_cons_succ, i64_w, i32_w]
            rfl
          refine one_ (i := 8) (N := some 15) #[true, true, true, true, true, true, true, true, true, false, false] rfl rfl (by kernel_rfl) (by decide) (fun K hK => ?_)
          refine box_step ?hg (N := 15) ?hd (cs := #[.int .i64 0, .slice none 0 0]) (t := 26) ?hr ?_; (case hd => rfl); (case hg => rfl); (case hr => first | (go_simp; done) | (go_simp; rfl))
          intro gx142 hg w141 hbox hb
          have hs := below_step (by repeat (first | (with_reducible first | exact Below.refl _ _ | apply below_alloc | apply pw_below_drewN | apply below_drew1) | exact Below.refl _ _) : Below w136.heap.size w136 _) hb
          have Lw141 := Aside0.mk (below_size hs)
          have GEgx142 : Aside0 (w136.heap.size ≤ gx142) := ⟨by rw [hg]; exact below_size (by repeat (first | (with_reducible first | exact Below.refl _ _ | apply below_alloc | apply pw_below_drewN | apply below_drew1) | exact Below.refl _ _) : Below w136.heap.size w136 _)⟩
          have GLgx142 : Aside0 (gx142 < w141.heap.size) := ⟨blk_lt hbox⟩
          have n_ := Aside0.mk (HMV.out _ _ HF.out hs)
          clear HF
          have HF := n_
          clear n_
          have n_ := Aside0.mk (Kd.R_below HV128.out hs)
          clear HV128
          have HV128 := n_
          clear n_
          have n_ := Aside0.mk (Kd.R_below HV133.out hs)
          clear HV133
          have HV133 := n_
          clear n_
          have n_ := Aside0.mk (Kd.R_below HV138.out hs)
          clear HV138
          have HV138 := n_
          clear n_
          have BKgx142 := Aside0.mk hbox
          clear hbox hb hs hg
          have hu_ := HUN.out _ HF.out
          refine hK.out _ _ ⟨(blk_cell hu_.2.2.2.2.2.1 0).trans rfl, (blk_cell hu_.2.2.2.2.2.1 1).trans rfl, (blk_cell hu_.2.2.2.2.2.2.1 0).trans rfl, (blk_cell hu_.2.2.2.2.2.2.1 1).trans rfl, (blk_cell hu_.2.2.2.2.2.2.2.1 0).trans rfl, (blk_cell hu_.2.2.2.2.2.2.2.1 1).trans rfl, (blk_cell hu_.2.2.2.2.2.2.2.2.1 0).trans rfl, (blk_cell hu_.2.2.2.2.2.2.2.2.1 1).trans rfl, (blk_cell hu_.2.2.2.2.2.2.2.2.2.1 0).trans rfl, (blk_cell hu_.2.2.2.2.2.2.2.2.2.1 1).trans rfl, (blk_cell hu_.2.2.2.2.2.2.2.2.2.2 0).trans rfl, (blk_cell hu_.2.2.2.2.2.2.2.2.2.2 1).trans rfl⟩ (fun hHeld => ?_)
          clear hK K hu_
          refine norm_ (a' := ?_) ?_ ?_
          rotate_left
          · show Act.put _ (some 15) _ = _
            simp only [Act.put, List.setIfInBounds_toArray, List.set_cons_zero, List.set_cons_succ, i64_w, i32_w]
            rfl
          have hz0 : w124.heap.size ≤ gx142 ∧ gx142 < w141.heap.size ∧ w124.heap.size ≤ w141.heap.size := (by have := Lw1.out; have := Lw2.out; have := Lw5.out; have := Lw8.out; have := Lw73.out; have := Lw77.out; have := Lw79.out; have := Lw83.out; have := Lw84.out; have := Lw86.out; have := Lw90.out; have := Lw91.out; have := Lw94.out; have := Lw98.out; have := Lw99.out; have := Lw101.out; have := Lw103.out; have := Lw108.out; have := Lw110.out; have := Lw115.out; have := Lw116.out; have := Lw118.out; have := Lw120.out; have := Lw121.out; have := Lw124.out; have := Lw126.out; have := Lw131.out; have := Lw136.out; have := Lw141.out; have := GEgx142.out; have := GLgx142.out; omega)
          have hz1 : Kd.R (Kd.int .i64) 2 w141 w.heap.size (fun k_ => w124.heap.size ≤ k_ ∧ k_ < w141.heap.size ∧ k_ ≠ gx142) (.slice Ao139 g13.length co140) g13 := Kd.R_mono HV138.out (fun k_ h_ => by have := h_.1; have := h_.2; have := Lw1.out; have := Lw2.out; have := Lw5.out; have := Lw8.out; have := Lw73.out; have := Lw77.out; have := Lw79.out; have := Lw83.out; have := Lw84.out; have := Lw86.out; have := Lw90.out; have := Lw91.out; have := Lw94.out; have := Lw98.out; have := Lw99.out; have := Lw101.out; have := Lw103.out; have := Lw108.out; have := Lw110.out; have := Lw115.out; have := Lw116.out; have := Lw118.out; have := Lw120.out; have := Lw121.out; have := Lw124.out; have := Lw126.out; have := Lw131.out; have := Lw136.out; have := Lw141.out; have := GEgx142.out; have := GLgx142.out; omega)
          exact norm_ (by simp only [putAll, Act.put, List.setIfInBounds_toArray, List.set_cons_zero, List.set_cons_succ]) (hCont (.slice Ao129 l0.length co130, .slice Ao134 l1.length co135, .slice Ao139 g13.length co140, gx142) _ ⟨hHeld, HF.out, hz1, BKgx142.out, hz0⟩)
        · skip
          refine box_step ?hg (N := 15) ?hd (cs := #[.int .i64 0, .slice none 0 0]) (t := 26) ?hr ?_; (case hd => rfl); (case hg => rfl); (case hr => first | (go_simp; done) | (go_simp; rfl))
          intro gx144 hg w143 hbox hb
          have hs := below_step (by repeat (first | (with_reducible first | exact Below.refl _ _ | apply below_alloc | apply pw_below_drewN | apply below_drew1) | exact Below.refl _ _) : Below w131.heap.size w131 _) hb
          have Lw143 := Aside0.mk (below_size hs)
          have GEgx144 : Aside0 (w131.heap.size ≤ gx144) := ⟨by rw [hg]; exact below_size (by repeat (first | (with_reducible first | exact Below.refl _ _ | apply below_alloc | apply pw_below_drewN | apply below_drew1) | exact Below.refl _ _) : Below w131.heap.size w131 _)⟩
          have GLgx144 : Aside0 (gx144 < w143.heap.size) := ⟨blk_lt hbox⟩
          have n_ := Aside0.mk (HMV.out _ _ HF.out hs)
          clear HF
          have HF := n_
          clear n_
          have n_ := Aside0.mk (Kd.R_below HV128.out hs)
          clear HV128
          have HV128 := n_
          clear n_
          have n_ := Aside0.mk (Kd.R_below HV133.out hs)
          clear HV133
          have HV133 := n_
          clear n_
          have BKgx144 := Aside0.mk hbox
          clear hbox hb hs hg
          have hu_ := HUN.out _ HF.out
          refine hK.out _ _ ⟨(blk_cell hu_.2.2.2.2.2.1 0).trans rfl, (blk_cell hu_.2.2.2.2.2.1 1).trans rfl, (blk_cell hu_.2.2.2.2.2.2.1 0).trans rfl, (blk_cell hu_.2.2.2.2.2.2.1 1).trans rfl, (blk_cell hu_.2.2.2.2.2.2.2.1 0).trans rfl, (blk_cell hu_.2.2.2.2.2.2.2.1 1).trans rfl, (blk_cell hu_.2.2.2.2.2.2.2.2.1 0).trans rfl, (blk_cell hu_.2.2.2.2.2.2.2.2.1 1).trans rfl, (blk_cell hu_.2.2.2.2.2.2.2.2.2.1 0).trans rfl, (blk_cell hu_.2.2.2.2.2.2.2.2.2.1 1).trans rfl, (blk_cell hu_.2.2.2.2.2.2.2.2.2.2 0).trans rfl, (blk_cell hu_.2.2.2.2.2.2.2.2.2.2 1).trans rfl⟩ (fun hHeld => ?_)
          clear hK K hu_
          refine norm_ (a' := ?_) ?_ ?_
          rotate_left
          · show Act.put _ (some 15) _ = _
            simp only [Act.put, List.setIfInBounds_toArray, List.set_cons_zero, List.set_cons_succ, i64_w, i32_w]
            rfl
          refine one_ (i := 4) (N := some 99) #[true, true, true, true, true, false, false, false, true, false, false] rfl rfl (by kernel_rfl) (by decide) (fun K hK => ?_)
          refine goes_ Try.func18 (by kernel_rfl) rfl #[.agg #[.int .i64 n0, .slice Ao129 l0.length co130], .agg #[.int .i64 n1, .slice Ao134 l1.length co135]] (by rfl) rfl rfl (by (try simp only [List.map_toArray, List.map_cons, List.map_nil]); first | done | rfl | (simp only [List.length_drop, List.length_take]; rfl) | (simp only [iotaSS_length, iota_length]; done) | (simp only [iotaSS_length, iota_length]; rfl)) ?_
          (with_reducible refine (impl_ConjugateWord.calls Kj92 n0 _ _ l0 n1 _ _ l1 g12 g13 g14 _ ?side1 ?side2 ?side3 ?side4 Aj92).mono ?_)
          (case side1 => repeat (first | exact (Kd.R_reads' HV128.out).2.2 | (with_reducible refine Kd.C_alloc ?_ _) | (with_reducible refine Kd.C_drewN ?_ _) | (with_reducible refine Kd.C_drew ?_)))
          (case side2 => exact (Kd.R_reads' HV128.out).2.1)
          (case side3 => repeat (first | exact (Kd.R_reads' HV133.out).2.2 | (with_reducible refine Kd.C_alloc ?_ _) | (with_reducible refine Kd.C_drewN ?_ _) | (with_reducible refine Kd.C_drew ?_)))
          (case side4 => exact (Kd.R_reads' HV133.out).2.1)
          rintro e w145 ⟨v146, rfl, ho, hb⟩
          refine ⟨_, rfl, ?_⟩
          have hs := below_step (by repeat (first | (with_reducible first | exact Below.refl _ _ | apply below_alloc | apply pw_below_drewN | apply below_drew1) | exact Below.refl _ _) : Below w143.heap.size w143 _) hb
          have Lw145 := Aside0.mk (below_size hs)
          have hFo_ := HF
          have n_ := Aside0.mk (HMV.out _ _ HF.out hs)
          clear HF
          have HF := n_
          clear n_
          have n_ := Aside0.mk (Kd.R_below HV128.out hs)
          clear HV128
          have HV128 := n_
          clear n_
          have n_ := Aside0.mk (Kd.R_below HV133.out hs)
          clear HV133
          have HV133 := n_
          clear n_
          have n_ := Aside0.mk (blk_below BKgx144.out hs)
          clear BKgx144
          have BKgx144 := n_
          clear n_
          have HV147 := Aside0.mk (Kd.R_mono (Kd.R_bound ho) (fun k_ h_ => (⟨Nat.le_trans (below_size (by repeat (first | (with_reducible first | exact Below.refl _ _ | apply below_alloc | apply pw_below_drewN | apply below_drew1) | exact Below.refl _ _) : Below w143.heap.size w143 _)) h_.2.1, h_.2.2.1⟩ : w143.heap.size ≤ k_ ∧ k_ < w145.heap.size)))
          obtain ⟨Ao148, co149, rfl⟩ := Kd.R_slice HV147.out
          have n_ := Aside0.mk (Kd.R_lower HV147.out (below_size ((HUN.out _ (HMV.out _ _ hFo_.out (by repeat (first | (with_reducible first | exact Below.refl _ _ | apply below_alloc | apply pw_below_drewN | apply below_drew1) | exact Below.refl _ _) : Below w143.heap.size w143 _))).1)))
          clear HV147
          have HV147 := n_
          clear n_
          clear hs hb ho
          have hu_ := HUN.out _ HF.out
          refine hK.out _ _ ⟨(blk_cell hu_.2.2.2.2.2.1 0).trans rfl, (blk_cell hu_.2.2.2.2.2.1 1).trans rfl, (blk_cell hu_.2.2.2.2.2.2.1 0).trans rfl, (blk_cell hu_.2.2.2.2.2.2.1 1).trans rfl, (blk_cell hu_.2.2.2.2.2.2.2.1 0).trans rfl, (blk_cell hu_.2.2.2.2.2.2.2.1 1).trans rfl, (blk_cell hu_.2.2.2.2.2.2.2.2.1 0).trans rfl, (blk_cell hu_.2.2.2.2.2.2.2.2.1 1).trans rfl, (blk_cell hu_.2.2.2.2.2.2.2.2.2.1 0).trans rfl, (blk_cell hu_.2.2.2.2.2.2.2.2.2.1 1).trans rfl, (blk_cell hu_.2.2.2.2.2.2.2.2.2.2 0).trans rfl, (blk_cell hu_.2.2.2.2.2.2.2.2.2.2 1).trans rfl⟩ (fun hHeld => ?_)
          clear hK K hu_
          refine norm_ (a' := ?_) ?_ ?_
          rotate_left
          · show Act.put _ (some 99) _ = _
            simp only [Act.put, List.setIfInBounds_toArray, List.set_cons_zero, List.set_cons_succ, i64_w, i32_w]
            rfl
          refine pure_ (i := 5) (N := some 94) (v := ?_) (a' := ?_) #[true, true, true, true, true, true, false, false, true, false, false] rfl rfl (by kernel_rfl) (fun _ _ _ h => h) (Or.inl ⟨by rfl, ?_⟩) ?_ ?_
          rotate_left
          · intro w'
            go_simp
            with_reducible rfl
          rotate_left
          · simp only [Act.put, List.setIfInBounds_toArray, List.set_cons_zero, List.set_cons_succ, i64_w, i32_w]
            rfl
          refine pure_ (i := 6) (N := some 100) (v := ?_) (a' := ?_) #[true, true, true, true, true, true, true, false, true, false, false] rfl rfl (by kernel_rfl) (fun _ _ _ h => h) (Or.inl ⟨by rfl, ?_⟩) ?_ ?_
          rotate_left
          · intro w'
            go_simp
            with_reducible rfl
          rotate_left
          · simp only [Act.put, List.setIfInBounds_toArray, List.set_cons_zero, List.set_cons_succ, i64_w, i32_w]
            rfl
          refine pure_ (i := 7) (N := some 101) (v := ?_) (a' := ?_) #[true, true, true, true, true, true, true, true, true, false, false] rfl rfl (by kernel_rfl) (fun _ _ _ h => h) (Or.inl ⟨by rfl, ?_⟩) ?_ ?_
          rotate_left
          · intro w'
            go_simp
            with_reducible rfl
          rotate_left
          · simp only [Act.put, List.setIfInBounds_toArray, List.set_cons_zero, List.set_cons_succ, i64_w, i32_w]
            rfl
          have hz0 : w124.heap.size ≤ gx144 ∧ gx144 < w145.heap.size ∧ w124.heap.size ≤ w145.heap.size := (by have := Lw1.out; have := Lw2.out; have := Lw5.out; have := Lw8.out; have := Lw73.out; have := Lw77.out; have := Lw79.out; have := Lw83.out; have := Lw84.out; have := Lw86.out; have := Lw90.out; have := Lw91.out; have := Lw94.out; have := Lw98.out; have := Lw99.out; have := Lw101.out; have := Lw103.out; have := Lw108.out; have := Lw110.out; have := Lw115.out; have := Lw116.out; have := Lw118.out; have := Lw120.out; have := Lw121.out; have := Lw124.out; have := Lw126.out; have := Lw131.out; have := Lw143.out; have := Lw145.out; have := GEgx144.out; have := GLgx144.out; omega)
          have hz1 : Kd.R (Kd.int .i64) 2 w145 w.heap.size (fun k_ => w124.heap.size ≤ k_ ∧ k_ < w145.heap.size ∧ k_ ≠ gx144) (.slice Ao148 g13.length co149) g13 := Kd.R_mono HV147.out (fun k_ h_ => by have := h_.1; have := h_.2; have := Lw1.out; have := Lw2.out; have := Lw5.out; have := Lw8.out; have := Lw73.out; have := Lw77.out; have := Lw79.out; have := Lw83.out; have := Lw84.out; have := Lw86.out; have := Lw90.out; have := Lw91.out; have := Lw94.out; have := Lw98.out; have := Lw99.out; have := Lw101.out; have := Lw103.out; have := Lw108.out; have := Lw110.out; have := Lw115.out; have := Lw116.out; have := Lw118.out; have := Lw120.out; have := Lw121.out; have := Lw124.out; have := Lw126.out; have := Lw131.out; have := Lw143.out; have := Lw145.out; have := GEgx144.out; have := GLgx144.out; omega)
          exact norm_ (by simp only [putAll, Act.put, List.setIfInBounds_toArray, List.set_cons_zero, List.set_cons_succ]) (hCont (.slice Ao129 l0.length co130, .slice Ao134 l1.length co135, .slice Ao148 g13.length co149, gx144) _ ⟨hHeld, HF.out, hz1, BKgx144.out, hz0⟩)
      · skip
        refine box_step ?hg (N := 15) ?hd (cs := #[.int .i64 0, .slice none 0 0]) (t := 26) ?hr ?_; (case hd => rfl); (case hg => rfl); (case hr => first | (go_simp; done) | (go_simp; rfl))
        intro gx151 hg w150 hbox hb
        have hs := below_step (by repeat (first | (with_reducible first | exact Below.refl _ _ | apply below_alloc | apply pw_below_drewN | apply below_drew1) | exact Below.refl _ _) : Below w126.heap.size w126 _) hb
        have Lw150 := Aside0.mk (below_size hs)
        have GEgx151 : Aside0 (w126.heap.size ≤ gx151) := ⟨by rw [hg]; exact below_size (by repeat (first | (with_reducible first | exact Below.refl _ _ | apply below_alloc | apply pw_below_drewN | apply below_drew1) | exact Below.refl _ _) : Below w126.heap.size w126 _)⟩
        have GLgx151 : Aside0 (gx151 < w150.heap.size) := ⟨blk_lt hbox⟩
        have n_ := Aside0.mk (HMV.out _ _ HF.out hs)
        clear HF
        have HF := n_
        clear n_
        have n_ := Aside0.mk (Kd.R_below HV128.out hs)
        clear HV128
        have HV128 := n_
        clear n_
        have BKgx151 := Aside0.mk hbox
        clear hbox hb hs hg
        have hu_ := HUN.out _ HF.out
        refine hK.out _ _ ⟨(blk_cell hu_.2.2.2.2.2.1 0).trans rfl, (blk_cell hu_.2.2.2.2.2.1 1).trans rfl, (blk_cell hu_.2.2.2.2.2.2.1 0).trans rfl, (blk_cell hu_.2.2.2.2.2.2.1 1).trans rfl, (blk_cell hu_.2.2.2.2.2.2.2.1 0).trans rfl, (blk_cell hu_.2.2.2.2.2.2.2.1 1).trans rfl, (blk_cell hu_.2.2.2.2.2.2.2.2.1 0).trans rfl, (blk_cell hu_.2.2.2.2.2.2.2.2.1 1).trans rfl, (blk_cell hu_.2.2.2.2.2.2.2.2.2.1 0).trans rfl, (blk_cell hu_.2.2.2.2.2.2.2.2.2.1 1).trans rfl, (blk_cell hu_.2.2.2.2.2.2.2.2.2.2 0).trans rfl, (blk_cell hu_.2.2.2.2.2.2.2.2.2.2 1).trans rfl⟩ (fun hHeld => ?_)
        clear hK K hu_
        refine norm_ (a' := ?_) ?_ ?_
        rotate_left
        · show Act.put _ (some 15) _ = _
          simp only [Act.put, List.setIfInBounds_toArray, List.set_cons_zero, List.set_cons_succ, i64_w, i32_w]
          rfl
        refine one_ (i := 3) (N := some 98) #[true, true, true, true, false, false, false, false, true, false, false] rfl rfl (by kernel_rfl) (by decide) (fun K hK => ?_)
        refine goes_ Try.func17 (by kernel_rfl) rfl #[.agg #[.int .i64 n1, .slice A1 l1.length c1]] (by rfl) rfl rfl (by (try simp only [List.map_toArray, List.map_cons, List.map_nil]); first | done | rfl | (simp only [List.length_drop, List.length_take]; rfl) | (simp only [iotaSS_length, iota_length]; done) | (simp only [iotaSS_length, iota_length]; rfl)) ?_
        (with_reducible refine (laws_toBraid.calls Kj11 n1 _ _ l1 n1 l1 _ ?side1 ?side2 Aj11).mono ?_)
        (case side1 => exact Kd.C_below HR1.out ((HUN.out _ (HMV.out w150 _ HF.out (by repeat (first | (with_reducible first | exact Below.refl _ _ | apply below_alloc | apply pw_below_drewN | apply below_drew1) | exact Below.refl _ _)))).1))
        (case side2 => exact HC1.out)
        rintro e w152 ⟨v153, rfl, ho, hb⟩
        refine ⟨_, rfl, ?_⟩
        have hs := below_step (by repeat (first | (with_reducible first | exact Below.refl _ _ | apply below_alloc | apply pw_below_drewN | apply below_drew1) | exact Below.refl _ _) : Below w150.heap.size w150 _) hb
        have Lw152 := Aside0.mk (below_size hs)
        have n_ := Aside0.mk (HMV.out _ _ HF.out hs)
        clear HF
        have HF := n_
        clear n_
        have n_ := Aside0.mk (Kd.R_below HV128.out hs)
        clear HV128
        have HV128 := n_
        clear n_
        have n_ := Aside0.mk (blk_below BKgx151.out hs)
        clear BKgx151
        have BKgx151 := n_
        clear n_
        have HV154 := Aside0.mk (Kd.R_mono (Kd.R_bound ho) (fun k_ h_ => (⟨Nat.le_trans (below_size (by repeat (first | (with_reducible first | exact Below.refl _ _ | apply below_alloc | apply pw_below_drewN | apply below_drew1) | exact Below.refl _ _) : Below w150.heap.size w150 _)) h_.2.1, h_.2.2.1⟩ : w150.heap.size ≤ k_ ∧ k_ < w152.heap.size)))
        obtain ⟨Ao155, co156, rfl⟩ := Kd.R_slice HV154.out
        clear hs hb ho
        have hu_ := HUN.out _ HF.out
        refine hK.out _ _ ⟨(blk_cell hu_.2.2.2.2.2.1 0).trans rfl, (blk_cell hu_.2.2.2.2.2.1 1).trans rfl, (blk_cell hu_.2.2.2.2.2.2.1 0).trans rfl, (blk_cell hu_.2.2.2.2.2.2.1 1).trans rfl, (blk_cell hu_.2.2.2.2.2.2.2.1 0).trans rfl, (blk_cell hu_.2.2.2.2.2.2.2.1 1).trans rfl, (blk_cell hu_.2.2.2.2.2.2.2.2.1 0).trans rfl, (blk_cell hu_.2.2.2.2.2.2.2.2.1 1).trans rfl, (blk_cell hu_.2.2.2.2.2.2.2.2.2.1 0).trans rfl, (blk_cell hu_.2.2.2.2.2.2.2.2.2.1 1).trans rfl, (blk_cell hu_.2.2.2.2.2.2.2.2.2.2 0).trans rfl, (blk_cell hu_.2.2.2.2.2.2.2.2.2.2 1).trans rfl⟩ (fun hHeld => ?_)
        clear hK K hu_
        refine norm_ (a' := ?_) ?_ ?_
        rotate_left
        · show Act.put _ (some 98) _ = _
          simp only [Act.put, List.setIfInBounds_toArray, List.set_cons_zero, List.set_cons_succ, i64_w, i32_w]
          rfl
        refine one_ (i := 4) (N := some 99) #[true, true, true, true, true, false, false, false, true, false, false] rfl rfl (by kernel_rfl) (by decide) (fun K hK => ?_)
        refine goes_ Try.func18 (by kernel_rfl) rfl #[.agg #[.int .i64 n0, .slice Ao129 l0.length co130], .agg #[.int .i64 n1, .slice Ao155 l1.length co156]] (by rfl) rfl rfl (by (try simp only [List.map_toArray, List.map_cons, List.map_nil]); first | done | rfl | (simp only [List.length_drop, List.length_take]; rfl) | (simp only [iotaSS_length, iota_length]; done) | (simp only [iotaSS_length, iota_length]; rfl)) ?_
        (with_reducible refine (impl_ConjugateWord.calls Kj92 n0 _ _ l0 n1 _ _ l1 g12 g13 g14 _ ?side1 ?side2 ?side3 ?side4 Aj92).mono ?_)
        (case side1 => repeat (first | exact (Kd.R_reads' HV128.out).2.2 | (with_reducible refine Kd.C_alloc ?_ _) | (with_reducible refine Kd.C_drewN ?_ _) | (with_reducible refine Kd.C_drew ?_)))
        (case side2 => exact (Kd.R_reads' HV128.out).2.1)
        (case side3 => repeat (first | exact (Kd.R_reads' HV154.out).2.2 | (with_reducible refine Kd.C_alloc ?_ _) | (with_reducible refine Kd.C_drewN ?_ _) | (with_reducible refine Kd.C_drew ?_)))
        (case side4 => exact (Kd.R_reads' HV154.out).2.1)
        rintro e w157 ⟨v158, rfl, ho, hb⟩
        refine ⟨_, rfl, ?_⟩
        have hs := below_step (by repeat (first | (with_reducible first | exact Below.refl _ _ | apply below_alloc | apply pw_below_drewN | apply below_drew1) | exact Below.refl _ _) : Below w152.heap.size w152 _) hb
        have Lw157 := Aside0.mk (below_size hs)
        have hFo_ := HF
        have n_ := Aside0.mk (HMV.out _ _ HF.out hs)
        clear HF
        have HF := n_
        clear n_
        have n_ := Aside0.mk (Kd.R_below HV128.out hs)
        clear HV128
        have HV128 := n_
        clear n_
        have n_ := Aside0.mk (Kd.R_below HV154.out hs)
        clear HV154
        have HV154 := n_
        clear n_
        have n_ := Aside0.mk (blk_below BKgx151.out hs)
        clear BKgx151
        have BKgx151 := n_
        clear n_
        have HV159 := Aside0.mk (Kd.R_mono (Kd.R_bound ho) (fun k_ h_ => (⟨Nat.le_trans (below_size (by repeat (first | (with_reducible first | exact Below.refl _ _ | apply below_alloc | apply pw_below_drewN | apply below_drew1) | exact Below.refl _ _) : Below w152.heap.size w152 _)) h_.2.1, h_.2.2.1⟩ : w152.heap.size ≤ k_ ∧ k_ < w157.heap.size)))
        obtain ⟨Ao160, co161, rfl⟩ := Kd.R_slice HV159.out
        have n_ := Aside0.mk (Kd.R_lower HV159.out (below_size ((HUN.out _ (HMV.out _ _ hFo_.out (by repeat (first | (with_reducible first | exact Below.refl _ _ | apply below_alloc | apply pw_below_drewN | apply below_drew1) | exact Below.refl _ _) : Below w152.heap.size w152 _))).1)))
        clear HV159
        have HV159 := n_
        clear n_
        clear hs hb ho
        have hu_ := HUN.out _ HF.out
        refine hK.out _ _ ⟨(blk_cell hu_.2.2.2.2.2.1 0).trans rfl, (blk_cell hu_.2.2.2.2.2.1 1).trans rfl, (blk_cell hu_.2.2.2.2.2.2.1 0).trans rfl, (blk_cell hu_.2.2.2.2.2.2.1 1).trans rfl, (blk_cell hu_.2.2.2.2.2.2.2.1 0).trans rfl, (blk_cell hu_.2.2.2.2.2.2.2.1 1).trans rfl, (blk_cell hu_.2.2.2.2.2.2.2.2.1 0).trans rfl, (blk_cell hu_.2.2.2.2.2.2.2.2.1 1).trans rfl, (blk_cell hu_.2.2.2.2.2.2.2.2.2.1 0).trans rfl, (blk_cell hu_.2.2.2.2.2.2.2.2.2.1 1).trans rfl, (blk_cell hu_.2.2.2.2.2.2.2.2.2.2 0).trans rfl, (blk_cell hu_.2.2.2.2.2.2.2.2.2.2 1).trans rfl⟩ (fun hHeld => ?_)
        clear hK K hu_
        refine norm_ (a' := ?_) ?_ ?_
        rotate_left
        · show Act.put _ (some 99) _ = _
          simp only [Act.put, List.setIfInBounds_toArray, List.set_cons_zero, List.set_cons_succ, i64_w, i32_w]
          rfl
        refine pure_ (i := 5) (N := some 94) (v := ?_) (a' := ?_) #[true, true, true, true, true, true, false, false, true, false, false] rfl rfl (by kernel_rfl) (fun _ _ _ h => h) (Or.inl ⟨by rfl, ?_⟩) ?_ ?_
        rotate_left
        · intro w'
          go_simp
          with_reducible rfl
        rotate_left
        · simp only [Act.put, List.setIfInBounds_toArray, List.set_cons_zero, List.set_cons_succ, i64_w, i32_w]
          rfl
        refine pure_ (i := 6) (N := some 100) (v := ?_) (a' := ?_) #[true, true, true, true, true, true, true, false, true, false, false] rfl rfl (by kernel_rfl) (fun _ _ _ h => h) (Or.inl ⟨by rfl, ?_⟩) ?_ ?_
        rotate_left
        · intro w'
          go_simp
          with_reducible rfl
        rotate_left
        · simp only [Act.put, List.setIfInBounds_toArray, List.set_cons_zero, List.set_cons_succ, i64_w, i32_w]
          rfl
        refine pure_ (i := 7) (N := some 101) (v := ?_) (a' := ?_) #[true, true, true, true, true, true, true, true, true, false, false] rfl rfl (by kernel_rfl) (fun _ _ _ h => h) (Or.inl ⟨by rfl, ?_⟩) ?_ ?_
        rotate_left
        · intro w'
          go_simp
          with_reducible rfl
        rotate_left
        · simp only [Act.put, List.setIfInBounds_toArray, List.set_cons_zero, List.set_cons_succ, i64_w, i32_w]
          rfl
        have hz0 : w124.heap.size ≤ gx151 ∧ gx151 < w157.heap.size ∧ w124.heap.size ≤ w157.heap.size := (by have := Lw1.out; have := Lw2.out; have := Lw5.out; have := Lw8.out; have := Lw73.out; have := Lw77.out; have := Lw79.out; have := Lw83.out; have := Lw84.out; have := Lw86.out; have := Lw90.out; have := Lw91.out; have := Lw94.out; have := Lw98.out; have := Lw99.out; have := Lw101.out; have := Lw103.out; have := Lw108.out; have := Lw110.out; have := Lw115.out; have := Lw116.out; have := Lw118.out; have := Lw120.out; have := Lw121.out; have := Lw124.out; have := Lw126.out; have := Lw150.out; have := Lw152.out; have := Lw157.out; have := GEgx151.out; have := GLgx151.out; omega)
        have hz1 : Kd.R (Kd.int .i64) 2 w157 w.heap.size (fun k_ => w124.heap.size ≤ k_ ∧ k_ < w157.heap.size ∧ k_ ≠ gx151) (.slice Ao160 g13.length co161) g13 := Kd.R_mono HV159.out (fun k_ h_ => by have := h_.1; have := h_.2; have := Lw1.out; have := Lw2.out; have := Lw5.out; have := Lw8.out; have := Lw73.out; have := Lw77.out; have := Lw79.out; have := Lw83.out; have := Lw84.out; have := Lw86.out; have := Lw90.out; have := Lw91.out; have := Lw94.out; have := Lw98.out; have := Lw99.out; have := Lw101.out; have := Lw103.out; have := Lw108.out; have := Lw110.out; have := Lw115.out; have := Lw116.out; have := Lw118.out; have := Lw120.out; have := Lw121.out; have := Lw124.out; have := Lw126.out; have := Lw150.out; have := Lw152.out; have := Lw157.out; have := GEgx151.out; have := GLgx151.out; omega)
        exact norm_ (by simp only [putAll, Act.put, List.setIfInBounds_toArray, List.set_cons_zero, List.set_cons_succ]) (hCont (.slice Ao129 l0.length co130, .slice Ao155 l1.length co156, .slice Ao160 g13.length co161, gx151) _ ⟨hHeld, HF.out, hz1, BKgx151.out, hz0⟩)
    · skip
      refine box_step ?hg (N := 15) ?hd (cs := #[.int .i64 0, .slice none 0 0]) (t := 26) ?hr ?_; (case hd => rfl); (case hg => rfl); (case hr => first | (go_simp; done) | (go_simp; rfl))
      intro gx163 hg w162 hbox hb
      have hs := below_step (by repeat (first | (with_reducible first | exact Below.refl _ _ | apply below_alloc | apply pw_below_drewN | apply below_drew1) | exact Below.refl _ _) : Below w124.heap.size w124 _) hb
      have Lw162 := Aside0.mk (below_size hs)
      have GEgx163 : Aside0 (w124.heap.size ≤ gx163) := ⟨by rw [hg]; exact below_size (by repeat (first | (with_reducible first | exact Below.refl _ _ | apply below_alloc | apply pw_below_drewN | apply below_drew1) | exact Below.refl _ _) : Below w124.heap.size w124 _)⟩
      have GLgx163 : Aside0 (gx163 < w162.heap.size) := ⟨blk_lt hbox⟩
      have n_ := Aside0.mk (HMV.out _ _ HF.out hs)
      clear HF
      have HF := n_
      clear n_
      have BKgx163 := Aside0.mk hbox
      clear hbox hb hs hg
      have hu_ := HUN.out _ HF.out
      refine hK.out _ _ ⟨(blk_cell hu_.2.2.2.2.2.1 0).trans rfl, (blk_cell hu_.2.2.2.2.2.1 1).trans rfl, (blk_cell hu_.2.2.2.2.2.2.1 0).trans rfl, (blk_cell hu_.2.2.2.2.2.2.1 1).trans rfl, (blk_cell hu_.2.2.2.2.2.2.2.1 0).trans rfl, (blk_cell hu_.2.2.2.2.2.2.2.1 1).trans rfl, (blk_cell hu_.2.2.2.2.2.2.2.2.1 0).trans rfl, (blk_cell hu_.2.2.2.2.2.2.2.2.1 1).trans rfl, (blk_cell hu_.2.2.2.2.2.2.2.2.2.1 0).trans rfl, (blk_cell hu_.2.2.2.2.2.2.2.2.2.1 1).trans rfl, (blk_cell hu_.2.2.2.2.2.2.2.2.2.2 0).trans rfl, (blk_cell hu_.2.2.2.2.2.2.2.2.2.2 1).trans rfl⟩ (fun hHeld => ?_)
      clear hK K hu_
      refine norm_ (a' := ?_) ?_ ?_
      rotate_left
      · show Act.put _ (some 15) _ = _
        simp only [Act.put, List.setIfInBounds_toArray, List.set_cons_zero, List.set_cons_succ, i64_w, i32_w]
        rfl
      refine one_ (i := 1) (N := some 96) #[true, true, true, false, false, false, false, false, true, false, false] rfl rfl (by kernel_rfl) (by decide) (fun K hK => ?_)
      refine goes_ Try.func17 (by kernel_rfl) rfl #[.agg #[.int .i64 n0, .slice A0 l0.length c0]] (by rfl) rfl rfl (by (try simp only [List.map_toArray, List.map_cons, List.map_nil]); first | done | rfl | (simp only [List.length_drop, List.length_take]; rfl) | (simp only [iotaSS_length, iota_length]; done) | (simp only [iotaSS_length, iota_length]; rfl)) ?_
      (with_reducible refine (laws_toBraid.calls Kj10 n0 _ _ l0 n0 l0 _ ?side1 ?side2 Aj10).mono ?_)
      (case side1 => exact Kd.C_below HR0.out ((HUN.out _ (HMV.out w162 _ HF.out (by repeat (first | (with_reducible first | exact Below.refl _ _ | apply below_alloc | apply pw_below_drewN | apply below_drew1) | exact Below.refl _ _)))).1))
      (case side2 => exact HC0.out)
      rintro e w164 ⟨v165, rfl, ho, hb⟩
      refine ⟨_, rfl, ?_⟩
      have hs := below_step (by repeat (first | (with_reducible first | exact Below.refl _ _ | apply below_alloc | apply pw_below_drewN | apply below_drew1) | exact Below.refl _ _) : Below w162.heap.size w162 _) hb
      have Lw164 := Aside0.mk (below_size hs)
      have n_ := Aside0.mk (HMV.out _ _ HF.out hs)
      clear HF
      have HF := n_
      clear n_
      have n_ := Aside0.mk (blk_below BKgx163.out hs)
      clear BKgx163
      have BKgx163 := n_
      clear n_
      have HV166 := Aside0.mk (Kd.R_mono (Kd.R_bound ho) (fun k_ h_ => (⟨Nat.le_trans (below_size (by repeat (first | (with_reducible first | exact Below.refl _ _ | apply below_alloc | apply pw_below_drewN | apply below_drew1) | exact Below.refl _ _) : Below w162.heap.size w162 _)) h_.2.1, h_.2.2.1⟩ : w162.heap.size ≤ k_ ∧ k_ < w164.heap.size)))
      obtain ⟨Ao167, co168, rfl⟩ := Kd.R_slice HV166.out
      clear hs hb ho
      have hu_ := HUN.out _ HF.out
      refine hK.out _ _ ⟨(blk_cell hu_.2.2.2.2.2.1 0).trans rfl, (blk_cell hu_.2.2.2.2.2.1 1).trans rfl, (blk_cell hu_.2.2.2.2.2.2.1 0).trans rfl, (blk_cell hu_.2.2.2.2.2.2.1 1).trans rfl, (blk_cell hu_.2.2.2.2.2.2.2.1 0).trans rfl, (blk_cell hu_.2.2.2.2.2.2.2.1 1).trans rfl, (blk_cell hu_.2.2.2.2.2.2.2.2.1 0).trans rfl, (blk_cell hu_.2.2.2.2.2.2.2.2.1 1).trans rfl, (blk_cell hu_.2.2.2.2.2.2.2.2.2.1 0).trans rfl, (blk_cell hu_.2.2.2.2.2.2.2.2.2.1 1).trans rfl, (blk_cell hu_.2.2.2.2.2.2.2.2.2.2 0).trans rfl, (blk_cell hu_.2.2.2.2.2.2.2.2.2.2 1).trans rfl⟩ (fun hHeld => ?_)
      clear hK K hu_
      refine norm_ (a' := ?_) ?_ ?_
      rotate_left
      · show Act.put _ (some 96) _ = _
        simp only [Act.put, List.setIfInBounds_toArray, List.set_cons_zero, List.set_cons_succ, i64_w, i32_w]
        rfl
      refine one_ (i := 3) (N := some 98) #[true, true, true, true, false, false, false, false, true, false, false] rfl rfl (by kernel_rfl) (by decide) (fun K hK => ?_)
      refine goes_ Try.func17 (by kernel_rfl) rfl #[.agg #[.int .i64 n1, .slice A1 l1.length c1]] (by rfl) rfl rfl (by (try simp only [List.map_toArray, List.map_cons, List.map_nil]); first | done | rfl | (simp only [List.length_drop, List.length_take]; rfl) | (simp only [iotaSS_length, iota_length]; done) | (simp only [iotaSS_length, iota_length]; rfl)) ?_
      (with_reducible refine (laws_toBraid.calls Kj11 n1 _ _ l1 n1 l1 _ ?side1 ?side2 Aj11).mono ?_)
      (case side1 => exact Kd.C_below HR1.out ((HUN.out _ (HMV.out w164 _ HF.out (by repeat (first | (with_reducible first | exact Below.refl _ _ | apply below_alloc | apply pw_below_drewN | apply below_drew1) | exact Below.refl _ _)))).1))
      (case side2 => exact HC1.out)
      rintro e w169 ⟨v170, rfl, ho, hb⟩
      refine ⟨_, rfl, ?_⟩
      have hs := below_step (by repeat (first | (with_reducible first | exact Below.refl _ _ | apply below_alloc | apply pw_below_drewN | apply below_drew1) | exact Below.refl _ _) : Below w164.heap.size w164 _) hb
      have Lw169 := Aside0.mk (below_size hs)
      have n_ := Aside0.mk (HMV.out _ _ HF.out hs)
      clear HF
      have HF := n_
      clear n_
      have n_ := Aside0.mk (Kd.R_below HV166.out hs)
      clear HV166
      have HV166 := n_
      clear n_
      have n_ := Aside0.mk (blk_below BKgx163.out hs)
      clear BKgx163
      have BKgx163 := n_
      clear n_
      have HV171 := Aside0.mk (Kd.R_mono (Kd.R_bound ho) (fun k_ h_ => (⟨Nat.le_trans (below_size (by repeat (first | (with_reducible first | exact Below.refl _ _ | apply below_alloc | apply pw_below_drewN | apply below_drew1) | exact Below.refl _ _) : Below w164.heap.size w164 _)) h_.2.1, h_.2.2.1⟩ : w164.heap.size ≤ k_ ∧ k_ < w169.heap.size)))
      obtain ⟨Ao172, co173, rfl⟩ := Kd.R_slice HV171.out
      clear hs hb ho
      have hu_ := HUN.out _ HF.out
      refine hK.out _ _ ⟨(blk_cell hu_.2.2.2.2.2.1 0).trans rfl, (blk_cell hu_.2.2.2.2.2.1 1).trans rfl, (blk_cell hu_.2.2.2.2.2.2.1 0).trans rfl, (blk_cell hu_.2.2.2.2.2.2.1 1).trans rfl, (blk_cell hu_.2.2.2.2.2.2.2.1 0).trans rfl, (blk_cell hu_.2.2.2.2.2.2.2.1 1).trans rfl, (blk_cell hu_.2.2.2.2.2.2.2.2.1 0).trans rfl, (blk_cell hu_.2.2.2.2.2.2.2.2.1 1).trans rfl, (blk_cell hu_.2.2.2.2.2.2.2.2.2.1 0).trans rfl, (blk_cell hu_.2.2.2.2.2.2.2.2.2.1 1).trans rfl, (blk_cell hu_.2.2.2.2.2.2.2.2.2.2 0).trans rfl, (blk_cell hu_.2.2.2.2.2.2.2.2.2.2 1).trans rfl⟩ (fun hHeld => ?_)
      clear hK K hu_
      refine norm_ (a' := ?_) ?_ ?_
      rotate_left
      · show Act.put _ (some 98) _ = _
        simp only [Act.put, List.setIfInBounds_toArray, List.set_cons_zero, List.set_cons_succ, i64_w, i32_w]
        rfl
      refine one_ (i := 4) (N := some 99) #[true, true, true, true, true, false, false, false, true, false, false] rfl rfl (by kernel_rfl) (by decide) (fun K hK => ?_)
      refine goes_ Try.func18 (by kernel_rfl) rfl #[.agg #[.int .i64 n0, .slice Ao167 l0.length co168], .agg #[.int .i64 n1, .slice Ao172 l1.length co173]] (by rfl) rfl rfl (by (try simp only [List.map_toArray, List.map_cons, List.map_nil]); first | done | rfl | (simp only [List.length_drop, List.length_take]; rfl) | (simp only [iotaSS_length, iota_length]; done) | (simp only [iotaSS_length, iota_length]; rfl)) ?_
      (with_reducible refine (impl_ConjugateWord.calls Kj92 n0 _ _ l0 n1 _ _ l1 g12 g13 g14 _ ?side1 ?side2 ?side3 ?side4 Aj92).mono ?_)
      (case side1 => repeat (first | exact (Kd.R_reads' HV166.out).2.2 | (with_reducible refine Kd.C_alloc ?_ _) | (with_reducible refine Kd.C_drewN ?_ _) | (with_reducible refine Kd.C_drew ?_)))
      (case side2 => exact (Kd.R_reads' HV166.out).2.1)
      (case side3 => repeat (first | exact (Kd.R_reads' HV171.out).2.2 | (with_reducible refine Kd.C_alloc ?_ _) | (with_reducible refine Kd.C_drewN ?_ _) | (with_reducible refine Kd.C_drew ?_)))
      (case side4 => exact (Kd.R_reads' HV171.out).2.1)
      rintro e w174 ⟨v175, rfl, ho, hb⟩
      refine ⟨_, rfl, ?_⟩
      have hs := below_step (by repeat (first | (with_reducible first | exact Below.refl _ _ | apply below_alloc | apply pw_below_drewN | apply below_drew1) | exact Below.refl _ _) : Below w169.heap.size w169 _) hb
      have Lw174 := Aside0.mk (below_size hs)
      have hFo_ := HF
      have n_ := Aside0.mk (HMV.out _ _ HF.out hs)
      clear HF
      have HF := n_
      clear n_
      have n_ := Aside0.mk (Kd.R_below HV166.out hs)
      clear HV166
      have HV166 := n_
      clear n_
      have n_ := Aside0.mk (Kd.R_below HV171.out hs)
      clear HV171
      have HV171 := n_
      clear n_
      have n_ := Aside0.mk (blk_below BKgx163.out hs)
      clear BKgx163
      have BKgx163 := n_
      clear n_
      have HV176 := Aside0.mk (Kd.R_mono (Kd.R_bound ho) (fun k_ h_ => (⟨Nat.le_trans (below_size (by repeat (first | (with_reducible first | exact Below.refl _ _ | apply below_alloc | apply pw_below_drewN | apply below_drew1) | exact Below.refl _ _) : Below w169.heap.size w169 _)) h_.2.1, h_.2.2.1⟩ : w169.heap.size ≤ k_ ∧ k_ < w174.heap.size)))
      obtain ⟨Ao177, co178, rfl⟩ := Kd.R_slice HV176.out
      have n_ := Aside0.mk (Kd.R_lower HV176.out (below_size ((HUN.out _ (HMV.out _ _ hFo_.out (by repeat (first | (with_reducible first | exact Below.refl _ _ | apply below_alloc | apply pw_below_drewN | apply below_drew1) | exact Below.refl _ _) : Below w169.heap.size w169 _))).1)))
      clear HV176
      have HV176 := n_
      clear n_
      clear hs hb ho
      have hu_ := HUN.out _ HF.out
      refine hK.out _ _ ⟨(blk_cell hu_.2.2.2.2.2.1 0).trans rfl, (blk_cell hu_.2.2.2.2.2.1 1).trans rfl, (blk_cell hu_.2.2.2.2.2.2.1 0).trans rfl, (blk_cell hu_.2.2.2.2.2.2.1 1).trans rfl, (blk_cell hu_.2.2.2.2.2.2.2.1 0).trans rfl, (blk_cell hu_.2.2.2.2.2.2.2.1 1).trans rfl, (blk_cell hu_.2.2.2.2.2.2.2.2.1 0).trans rfl, (blk_cell hu_.2.2.2.2.2.2.2.2.1 1).trans rfl, (blk_cell hu_.2.2.2.2.2.2.2.2.2.1 0).trans rfl, (blk_cell hu_.2.2.2.2.2.2.2.2.2.1 1).trans rfl, (blk_cell hu_.2.2.2.2.2.2.2.2.2.2 0).trans rfl, (blk_cell hu_.2.2.2.2.2.2.2.2.2.2 1).trans rfl⟩ (fun hHeld => ?_)
      clear hK K hu_
      refine norm_ (a' := ?_) ?_ ?_
      rotate_left
      · show Act.put _ (some 99) _ = _
        simp only [Act.put, List.setIfInBounds_toArray, List.set_cons_zero, List.set_cons_succ, i64_w, i32_w]
        rfl
      refine pure_ (i := 5) (N := some 94) (v := ?_) (a' := ?_) #[true, true, true, true, true, true, false, false, true, false, false] rfl rfl (by kernel_rfl) (fun _ _ _ h => h) (Or.inl ⟨by rfl, ?_⟩) ?_ ?_
      rotate_left
      · intro w'
        go_simp
        with_reducible rfl
      rotate_left
      · simp only [Act.put, List.setIfInBounds_toArray, List.set_cons_zero, List.set_cons_succ, i64_w, i32_w]
        rfl
      refine pure_ (i := 6) (N := some 100) (v := ?_) (a' := ?_) #[true, true, true, true, true, true, true, false, true, false, false] rfl rfl (by kernel_rfl) (fun _ _ _ h => h) (Or.inl ⟨by rfl, ?_⟩) ?_ ?_
      rotate_left
      · intro w'
        go_simp
        with_reducible rfl
      rotate_left
      · simp only [Act.put, List.setIfInBounds_toArray, List.set_cons_zero, List.set_cons_succ, i64_w, i32_w]
        rfl
      refine pure_ (i := 7) (N := some 101) (v := ?_) (a' := ?_) #[true, true, true, true, true, true, true, true, true, false, false] rfl rfl (by kernel_rfl) (fun _ _ _ h => h) (Or.inl ⟨by rfl, ?_⟩) ?_ ?_
      rotate_left
      · intro w'
        go_simp
        with_reducible rfl
      rotate_left
      · simp only [Act.put, List.setIfInBounds_toArray, List.set_cons_zero, List.set_cons_succ, i64_w, i32_w]
        rfl
      have hz0 : w124.heap.size ≤ gx163 ∧ gx163 < w174.heap.size ∧ w124.heap.size ≤ w174.heap.size := (by have := Lw1.out; have := Lw2.out; have := Lw5.out; have := Lw8.out; have := Lw73.out; have := Lw77.out; have := Lw79.out; have := Lw83.out; have := Lw84.out; have := Lw86.out; have := Lw90.out; have := Lw91.out; have := Lw94.out; have := Lw98.out; have := Lw99.out; have := Lw101.out; have := Lw103.out; have := Lw108.out; have := Lw110.out; have := Lw115.out; have := Lw116.out; have := Lw118.out; have := Lw120.out; have := Lw121.out; have := Lw124.out; have := Lw162.out; have := Lw164.out; have := Lw169.out; have := Lw174.out; have := GEgx163.out; have := GLgx163.out; omega)
      have hz1 : Kd.R (Kd.int .i64) 2 w174 w.heap.size (fun k_ => w124.heap.size ≤ k_ ∧ k_ < w174.heap.size ∧ k_ ≠ gx163) (.slice Ao177 g13.length co178) g13 := Kd.R_mono HV176.out (fun k_ h_ => by have := h_.1; have := h_.2; have := Lw1.out; have := Lw2.out; have := Lw5.out; have := Lw8.out; have := Lw73.out; have := Lw77.out; have := Lw79.out; have := Lw83.out; have := Lw84.out; have := Lw86.out; have := Lw90.out; have := Lw91.out; have := Lw94.out; have := Lw98.out; have := Lw99.out; have := Lw101.out; have := Lw103.out; have := Lw108.out; have := Lw110.out; have := Lw115.out; have := Lw116.out; have := Lw118.out; have := Lw120.out; have := Lw121.out; have := Lw124.out; have := Lw162.out; have := Lw164.out; have := Lw169.out; have := Lw174.out; have := GEgx163.out; have := GLgx163.out; omega)
      exact norm_ (by simp only [putAll, Act.put, List.setIfInBounds_toArray, List.set_cons_zero, List.set_cons_succ]) (hCont (.slice Ao167 l0.length co168, .slice Ao172 l1.length co173, .slice Ao177 g13.length co178, gx163) _ ⟨hHeld, HF.out, hz1, BKgx163.out, hz0⟩)
  rintro ⟨v179, v180, v181, gb182⟩ w183 ⟨hS_, hF_, hR_, hbx_, hge_, hgl_, hle_⟩
  dsimp only at hS_ hR_ hbx_ hge_ hgl_
  have hu_ := HUN.out _ hF_
  clear HF HMV HUN hF_
  have HB := Aside0.mk hu_.1
  have H74 := Aside0.mk hu_.2.1
  have H80 := Aside0.mk hu_.2.2.1
  have H87 := Aside0.mk hu_.2.2.2.1
  have H95 := Aside0.mk hu_.2.2.2.2.1
  have BKgb2 := Aside0.mk hu_.2.2.2.2.2.1
  have BKgb3 := Aside0.mk hu_.2.2.2.2.2.2.1
  have BKgb72 := Aside0.mk hu_.2.2.2.2.2.2.2.1
  have BKgb8 := Aside0.mk hu_.2.2.2.2.2.2.2.2.1
  have BKgb9 := Aside0.mk hu_.2.2.2.2.2.2.2.2.2.1
  have BKgb10 := Aside0.mk hu_.2.2.2.2.2.2.2.2.2.2
  clear hu_
  clear F_
  have Lw183 := Aside0.mk hle_
  have GEgb182 := Aside0.mk hge_
  have GLgb182 := Aside0.mk hgl_
  have BKgb182 := Aside0.mk hbx_
  have H184 := Aside0.mk hR_
  clear hle_ hge_ hgl_ hbx_ hR_
  obtain ⟨Ao185, co186, rfl⟩ := Kd.R_slice H184.out
  have hHeld := hS_
  clear hS_
  refine norm_ (a' := ?_) ?_ ?_
  rotate_left
  · simp only [putAll, Act.put, List.setIfInBounds_toArray, List.set_cons_zero, List.set_cons_succ]
    rfl
  refine one_ (i := 9) (N := none) #[true, true, true, true, true, true, true, true, true, true, false] rfl rfl (by kernel_rfl) (by decide) (fun K hK => ?_)
  have hs0 : w183.cell? ⟨gb182, 0, none⟩ = some (.int .i64 0) := (blk_cell BKgb182.out 0).trans rfl
  have hs1 : w183.cell? ⟨gb182, 1, none⟩ = some (.slice none 0 0) := (blk_cell BKgb182.out 1).trans rfl
  have hf0 := blk_frozen BKgb182.out 0
  have hf1 := blk_frozen BKgb182.out 1
  refine skip_ (w1 := ((World.setCell w183 ⟨gb182, 0, none⟩ (.int .i64 g12)).setCell ⟨gb182, 1, none⟩ (.slice Ao185 g13.length co186))) (by rfl) rfl ?_ ?_
  · first | (go_simp; done) | (go_simp; rfl)
  obtain ⟨w187, hw⟩ : ∃ x_, x_ = ((World.setCell w183 ⟨gb182, 0, none⟩ (.int .i64 g12)).setCell ⟨gb182, 1, none⟩ (.slice Ao185 g13.length co186)) := ⟨_, rfl⟩
  rw [← hw]
  clear hs0 hs1 hf0 hf1
  have hk : Kept w183 w187 (fun k_ => k_ = gb182) := (by rw [hw]; exact Kept.setCell (S := fun k_ => k_ = gb182) (Kept.setCell (S := fun k_ => k_ = gb182) (Kept.refl _ _) (p := ⟨gb182, 0, none⟩) (Or.inl rfl) _) (p := ⟨gb182, 1, none⟩) (Or.inl rfl) _)
  have hc : w187.heap[gb182]? = some (.cells #[.int .i64 g12, .slice Ao185 g13.length co186] 26 (0, 0)) := (by rw [hw]; exact blk_put (blk_put BKgb182.out 0 _ rfl) 1 _ rfl)
  have hd : Below w.heap.size w w187 := (by have hb := HB.out; rw [hw]; exact below_set (below_set hb (by have := Lw1.out; have := Lw2.out; have := Lw5.out; have := Lw8.out; have := Lw73.out; have := Lw77.out; have := Lw79.out; have := Lw83.out; have := Lw84.out; have := Lw86.out; have := Lw90.out; have := Lw91.out; have := Lw94.out; have := Lw98.out; have := Lw99.out; have := Lw101.out; have := Lw103.out; have := Lw108.out; have := Lw110.out; have := Lw115.out; have := Lw116.out; have := Lw118.out; have := Lw120.out; have := Lw121.out; have := Lw124.out; have := Lw183.out; have := GEgb2.out; have := GLgb2.out; have := GEgb3.out; have := GLgb3.out; have := GEgb72.out; have := GLgb72.out; have := GEgb8.out; have := GLgb8.out; have := GEgb9.out; have := GLgb9.out; have := GEgb10.out; have := GLgb10.out; have := GEgb182.out; have := GLgb182.out; omega)) (by have := Lw1.out; have := Lw2.out; have := Lw5.out; have := Lw8.out; have := Lw73.out; have := Lw77.out; have := Lw79.out; have := Lw83.out; have := Lw84.out; have := Lw86.out; have := Lw90.out; have := Lw91.out; have := Lw94.out; have := Lw98.out; have := Lw99.out; have := Lw101.out; have := Lw103.out; have := Lw108.out; have := Lw110.out; have := Lw115.out; have := Lw116.out; have := Lw118.out; have := Lw120.out; have := Lw121.out; have := Lw124.out; have := Lw183.out; have := GEgb2.out; have := GLgb2.out; have := GEgb3.out; have := GLgb3.out; have := GEgb72.out; have := GLgb72.out; have := GEgb8.out; have := GLgb8.out; have := GEgb9.out; have := GLgb9.out; have := GEgb10.out; have := GLgb10.out; have := GEgb182.out; have := GLgb182.out; omega))
  have Lw187 := Aside0.mk hk.1
  have n_ := Aside0.mk (Kd.R_kept H74.out hk (fun k_ hk_ hs_ => by have := hk_.1; have := hk_.2; have := hs_; have := Lw1.out; have := Lw2.out; have := Lw5.out; have := Lw8.out; have := Lw73.out; have := Lw77.out; have := Lw79.out; have := Lw83.out; have := Lw84.out; have := Lw86.out; have := Lw90.out; have := Lw91.out; have := Lw94.out; have := Lw98.out; have := Lw99.out; have := Lw101.out; have := Lw103.out; have := Lw108.out; have := Lw110.out; have := Lw115.out; have := Lw116.out; have := Lw118.out; have := Lw120.out; have := Lw121.out; have := Lw124.out; have := Lw183.out; have := GEgb2.out; have := GLgb2.out; have := GEgb3.out; have := GLgb3.out; have := GEgb72.out; have := GLgb72.out; have := GEgb8.out; have := GLgb8.out; have := GEgb9.out; have := GLgb9.out; have := GEgb10.out; have := GLgb10.out; have := GEgb182.out; have := GLgb182.out; omega))
  clear H74
  have H74 := n_
  clear n_
  have n_ := Aside0.mk (Kd.R_kept H80.out hk (fun k_ hk_ hs_ => by have := hk_.1; have := hk_.2; have := hs_; have := Lw1.out; have := Lw2.out; have := Lw5.out; have := Lw8.out; have := Lw73.out; have := Lw77.out; have := Lw79.out; have := Lw83.out; have := Lw84.out; have := Lw86.out; have := Lw90.out; have := Lw91.out; have := Lw94.out; have := Lw98.out; have := Lw99.out; have := Lw101.out; have := Lw103.out; have := Lw108.out; have := Lw110.out; have := Lw115.out; have := Lw116.out; have := Lw118.out; have := Lw120.out; have := Lw121.out; have := Lw124.out; have := Lw183.out; have := GEgb2.out; have := GLgb2.out; have := GEgb3.out; have := GLgb3.out; have := GEgb72.out; have := GLgb72.out; have := GEgb8.out; have := GLgb8.out; have := GEgb9.out; have := GLgb9.out; have := GEgb10.out; have := GLgb10.out; have := GEgb182.out; have := GLgb182.out; omega))
  clear H80
  have H80 := n_
  clear n_
  have n_ := Aside0.mk (Kd.R_kept H87.out hk (fun k_ hk_ hs_ => by have := hk_.1; have := hk_.2; have := hs_; have := Lw1.out; have := Lw2.out; have := Lw5.out; have := Lw8.out; have := Lw73.out; have := Lw77.out; have := Lw79.out; have := Lw83.out; have := Lw84.out; have := Lw86.out; have := Lw90.out; have := Lw91.out; have := Lw94.out; have := Lw98.out; have := Lw99.out; have := Lw101.out; have := Lw103.out; have := Lw108.out; have := Lw110.out; have := Lw115.out; have := Lw116.out; have := Lw118.out; have := Lw120.out; have := Lw121.out; have := Lw124.out; have := Lw183.out; have := GEgb2.out; have := GLgb2.out; have := GEgb3.out; have := GLgb3.out; have := GEgb72.out; have := GLgb72.out; have := GEgb8.out; have := GLgb8.out; have := GEgb9.out; have := GLgb9.out; have := GEgb10.out; have := GLgb10.out; have := GEgb182.out; have := GLgb182.out; omega))
  clear H87
  have H87 := n_
  clear n_
  have n_ := Aside0.mk (Kd.R_kept H95.out hk (fun k_ hk_ hs_ => by have := hk_.1; have := hk_.2; have := hs_; have := Lw1.out; have := Lw2.out; have := Lw5.out; have := Lw8.out; have := Lw73.out; have := Lw77.out; have := Lw79.out; have := Lw83.out; have := Lw84.out; have := Lw86.out; have := Lw90.out; have := Lw91.out; have := Lw94.out; have := Lw98.out; have := Lw99.out; have := Lw101.out; have := Lw103.out; have := Lw108.out; have := Lw110.out; have := Lw115.out; have := Lw116.out; have := Lw118.out; have := Lw120.out; have := Lw121.out; have := Lw124.out; have := Lw183.out; have := GEgb2.out; have := GLgb2.out; have := GEgb3.out; have := GLgb3.out; have := GEgb72.out; have := GLgb72.out; have := GEgb8.out; have := GLgb8.out; have := GEgb9.out; have := GLgb9.out; have := GEgb10.out; have := GLgb10.out; have := GEgb182.out; have := GLgb182.out; omega))
  clear H95
  have H95 := n_
  clear n_
  have n_ := Aside0.mk (Kd.R_kept H184.out hk (fun k_ hk_ hs_ => by have := hk_.1; have := hk_.2; have := hs_; have := Lw1.out; have := Lw2.out; have := Lw5.out; have := Lw8.out; have := Lw73.out; have := Lw77.out; have := Lw79.out; have := Lw83.out; have := Lw84.out; have := Lw86.out; have := Lw90.out; have := Lw91.out; have := Lw94.out; have := Lw98.out; have := Lw99.out; have := Lw101.out; have := Lw103.out; have := Lw108.out; have := Lw110.out; have := Lw115.out; have := Lw116.out; have := Lw118.out; have := Lw120.out; have := Lw121.out; have := Lw124.out; have := Lw183.out; have := GEgb2.out; have := GLgb2.out; have := GEgb3.out; have := GLgb3.out; have := GEgb72.out; have := GLgb72.out; have := GEgb8.out; have := GLgb8.out; have := GEgb9.out; have := GLgb9.out; have := GEgb10.out; have := GLgb10.out; have := GEgb182.out; have := GLgb182.out; omega))
  clear H184
  have H184 := n_
  clear n_
  have n_ := Aside0.mk (blk_kept BKgb2.out hk (fun hs_ => by have := hs_; have := Lw1.out; have := Lw2.out; have := Lw5.out; have := Lw8.out; have := Lw73.out; have := Lw77.out; have := Lw79.out; have := Lw83.out; have := Lw84.out; have := Lw86.out; have := Lw90.out; have := Lw91.out; have := Lw94.out; have := Lw98.out; have := Lw99.out; have := Lw101.out; have := Lw103.out; have := Lw108.out; have := Lw110.out; have := Lw115.out; have := Lw116.out; have := Lw118.out; have := Lw120.out; have := Lw121.out; have := Lw124.out; have := Lw183.out; have := GEgb2.out; have := GLgb2.out; have := GEgb3.out; have := GLgb3.out; have := GEgb72.out; have := GLgb72.out; have := GEgb8.out; have := GLgb8.out; have := GEgb9.out; have := GLgb9.out; have := GEgb10.out; have := GLgb10.out; have := GEgb182.out; have := GLgb182.out; omega))
  clear BKgb2
  have BKgb2 := n_
  clear n_
  have n_ := Aside0.mk (blk_kept BKgb3.out hk (fun hs_ => by have := hs_; have := Lw1.out; have := Lw2.out; have := Lw5.out; have := Lw8.out; have := Lw73.out; have := Lw77.out; have := Lw79.out; have := Lw83.out; have := Lw84.out; have := Lw86.out; have := Lw90.out; have := Lw91.out; have := Lw94.out; have := Lw98.out; have := Lw99.out; have := Lw101.out; have := Lw103.out; have := Lw108.out; have := Lw110.out; have := Lw115.out; have := Lw116.out; have := Lw118.out; have := Lw120.out; have := Lw121.out; have := Lw124.out; have := Lw183.out; have := GEgb2.out; have := GLgb2.out; have := GEgb3.out; have := GLgb3.out; have := GEgb72.out; have := GLgb72.out; have := GEgb8.out; have := GLgb8.out; have := GEgb9.out; have := GLgb9.out; have := GEgb10.out; have := GLgb10.out; have := GEgb182.out; have := GLgb182.out; omega))
  clear BKgb3
  have BKgb3 := n_
  clear n_
  have n_ := Aside0.mk (blk_kept BKgb72.out hk (fun hs_ => by have := hs_; have := Lw1.out; have := Lw2.out; have := Lw5.out; have := Lw8.out; have := Lw73.out; have := Lw77.out; have := Lw79.out; have := Lw83.out; have := Lw84.out; have := Lw86.out; have := Lw90.out; have := Lw91.out; have := Lw94.out; have := Lw98.out; have := Lw99.out; have := Lw101.out; have := Lw103.out; have := Lw108.out; have := Lw110.out; have := Lw115.out; have := Lw116.out; have := Lw118.out; have := Lw120.out; have := Lw121.out; have := Lw124.out; have := Lw183.out; have := GEgb2.out; have := GLgb2.out; have := GEgb3.out; have := GLgb3.out; have := GEgb72.out; have := GLgb72.out; have := GEgb8.out; have := GLgb8.out; have := GEgb9.out; have := GLgb9.out; have := GEgb10.out; have := GLgb10.out; have := GEgb182.out; have := GLgb182.out; omega))
  clear BKgb72
  have BKgb72 := n_
  clear n_
  have n_ := Aside0.mk (blk_kept BKgb8.out hk (fun hs_ => by have := hs_; have := Lw1.out; have := Lw2.out; have := Lw5.out; have := Lw8.out; have := Lw73.out; have := Lw77.out; have := Lw79.out; have := Lw83.out; have := Lw84.out; have := Lw86.out; have := Lw90.out; have := Lw91.out; have := Lw94.out; have := Lw98.out; have := Lw99.out; have := Lw101.out; have := Lw103.out; have := Lw108.out; have := Lw110.out; have := Lw115.out; have := Lw116.out; have := Lw118.out; have := Lw120.out; have := Lw121.out; have := Lw124.out; have := Lw183.out; have := GEgb2.out; have := GLgb2.out; have := GEgb3.out; have := GLgb3.out; have := GEgb72.out; have := GLgb72.out; have := GEgb8.out; have := GLgb8.out; have := GEgb9.out; have := GLgb9.out; have := GEgb10.out; have := GLgb10.out; have := GEgb182.out; have := GLgb182.out; omega))
  clear BKgb8
  have BKgb8 := n_
  clear n_
  have n_ := Aside0.mk (blk_kept BKgb9.out hk (fun hs_ => by have := hs_; have := Lw1.out; have := Lw2.out; have := Lw5.out; have := Lw8.out; have := Lw73.out; have := Lw77.out; have := Lw79.out; have := Lw83.out; have := Lw84.out; have := Lw86.out; have := Lw90.out; have := Lw91.out; have := Lw94.out; have := Lw98.out; have := Lw99.out; have := Lw101.out; have := Lw103.out; have := Lw108.out; have := Lw110.out; have := Lw115.out; have := Lw116.out; have := Lw118.out; have := Lw120.out; have := Lw121.out; have := Lw124.out; have := Lw183.out; have := GEgb2.out; have := GLgb2.out; have := GEgb3.out; have := GLgb3.out; have := GEgb72.out; have := GLgb72.out; have := GEgb8.out; have := GLgb8.out; have := GEgb9.out; have := GLgb9.out; have := GEgb10.out; have := GLgb10.out; have := GEgb182.out; have := GLgb182.out; omega))
  clear BKgb9
  have BKgb9 := n_
  clear n_
  have n_ := Aside0.mk (blk_kept BKgb10.out hk (fun hs_ => by have := hs_; have := Lw1.out; have := Lw2.out; have := Lw5.out; have := Lw8.out; have := Lw73.out; have := Lw77.out; have := Lw79.out; have := Lw83.out; have := Lw84.out; have := Lw86.out; have := Lw90.out; have := Lw91.out; have := Lw94.out; have := Lw98.out; have := Lw99.out; have := Lw101.out; have := Lw103.out; have := Lw108.out; have := Lw110.out; have := Lw115.out; have := Lw116.out; have := Lw118.out; have := Lw120.out; have := Lw121.out; have := Lw124.out; have := Lw183.out; have := GEgb2.out; have := GLgb2.out; have := GEgb3.out; have := GLgb3.out; have := GEgb72.out; have := GLgb72.out; have := GEgb8.out; have := GLgb8.out; have := GEgb9.out; have := GLgb9.out; have := GEgb10.out; have := GLgb10.out; have := GEgb182.out; have := GLgb182.out; omega))
  clear BKgb10
  have BKgb10 := n_
  clear n_
  clear BKgb182
  have BKgb182 := Aside0.mk hc
  clear HB
  have HB := Aside0.mk hd
  clear hk hc hd hw
  refine hK.out _ _ ⟨(blk_cell BKgb2.out 0).trans rfl, (blk_cell BKgb2.out 1).trans rfl, (blk_cell BKgb3.out 0).trans rfl, (blk_cell BKgb3.out 1).trans rfl, (blk_cell BKgb72.out 0).trans rfl, (blk_cell BKgb72.out 1).trans rfl, (blk_cell BKgb8.out 0).trans rfl, (blk_cell BKgb8.out 1).trans rfl, (blk_cell BKgb9.out 0).trans rfl, (blk_cell BKgb9.out 1).trans rfl, (blk_cell BKgb10.out 0).trans rfl, (blk_cell BKgb10.out 1).trans rfl⟩ (fun hHeld => ?_)
  clear hK K
  refine pure_ (i := 10) (N := some 16) (v := ?_) (a' := ?_) #[true, true, true, true, true, true, true, true, true, true, true] rfl rfl (by kernel_rfl) (fun _ _ _ h => h) (Or.inl ⟨by rfl, ?_⟩) ?_ ?_
  rotate_left
  · intro w'
    go_simp
    with_reducible rfl
  rotate_left
  · simp only [Act.put, List.setIfInBounds_toArray, List.set_cons_zero, List.set_cons_succ, i64_w, i32_w]
    rfl
  refine done_ (by kernel_rfl) ?_
  (try clear hczgb2_0 hczgb2_1 hfzgb2_0 hfzgb2_1)
  have hczgb2_0 : w187.cell? ⟨gb2, 0, none⟩ = some (.int .i64 n0) := (blk_cell BKgb2.out 0).trans rfl
  have hczgb2_1 : w187.cell? ⟨gb2, 1, none⟩ = some (.slice A0 l0.length c0) := (blk_cell BKgb2.out 1).trans rfl
  have hfzgb2_0 := blk_frozen BKgb2.out 0
  have hfzgb2_1 := blk_frozen BKgb2.out 1
  (try clear hczgb3_0 hczgb3_1 hfzgb3_0 hfzgb3_1)
  have hczgb3_0 : w187.cell? ⟨gb3, 0, none⟩ = some (.int .i64 n1) := (blk_cell BKgb3.out 0).trans rfl
  have hczgb3_1 : w187.cell? ⟨gb3, 1, none⟩ = some (.slice A1 l1.length c1) := (blk_cell BKgb3.out 1).trans rfl
  have hfzgb3_0 := blk_frozen BKgb3.out 0
  have hfzgb3_1 := blk_frozen BKgb3.out 1
  (try clear hczgb72_0 hczgb72_1 hfzgb72_0 hfzgb72_1)
  have hczgb72_0 : w187.cell? ⟨gb72, 0, none⟩ = some (.int .i64 g12) := (blk_cell BKgb72.out 0).trans rfl
  have hczgb72_1 : w187.cell? ⟨gb72, 1, none⟩ = some (.slice Ao75 g13.length co76) := (blk_cell BKgb72.out 1).trans rfl
  have hfzgb72_0 := blk_frozen BKgb72.out 0
  have hfzgb72_1 := blk_frozen BKgb72.out 1
  (try clear hczgb8_0 hczgb8_1 hfzgb8_0 hfzgb8_1)
  have hczgb8_0 : w187.cell? ⟨gb8, 0, none⟩ = some (.int .i64 n0) := (blk_cell BKgb8.out 0).trans rfl
  have hczgb8_1 : w187.cell? ⟨gb8, 1, none⟩ = some (.slice Ao81 l0.length co82) := (blk_cell BKgb8.out 1).trans rfl
  have hfzgb8_0 := blk_frozen BKgb8.out 0
  have hfzgb8_1 := blk_frozen BKgb8.out 1
  (try clear hczgb9_0 hczgb9_1 hfzgb9_0 hfzgb9_1)
  have hczgb9_0 : w187.cell? ⟨gb9, 0, none⟩ = some (.int .i64 n1) := (blk_cell BKgb9.out 0).trans rfl
  have hczgb9_1 : w187.cell? ⟨gb9, 1, none⟩ = some (.slice Ao88 l1.length co89) := (blk_cell BKgb9.out 1).trans rfl
  have hfzgb9_0 := blk_frozen BKgb9.out 0
  have hfzgb9_1 := blk_frozen BKgb9.out 1
  (try clear hczgb10_0 hczgb10_1 hfzgb10_0 hfzgb10_1)
  have hczgb10_0 : w187.cell? ⟨gb10, 0, none⟩ = some (.int .i64 g12) := (blk_cell BKgb10.out 0).trans rfl
  have hczgb10_1 : w187.cell? ⟨gb10, 1, none⟩ = some (.slice Ao96 g13.length co97) := (blk_cell BKgb10.out 1).trans rfl
  have hfzgb10_0 := blk_frozen BKgb10.out 0
  have hfzgb10_1 := blk_frozen BKgb10.out 1
  (try clear hczgb182_0 hczgb182_1 hfzgb182_0 hfzgb182_1)
  have hczgb182_0 : w187.cell? ⟨gb182, 0, none⟩ = some (.int .i64 g12) := (blk_cell BKgb182.out 0).trans rfl
  have hczgb182_1 : w187.cell? ⟨gb182, 1, none⟩ = some (.slice Ao185 g13.length co186) := (blk_cell BKgb182.out 1).trans rfl
  have hfzgb182_0 := blk_frozen BKgb182.out 0
  have hfzgb182_1 := blk_frozen BKgb182.out 1
  go_wp2_with (first | ((with_reducible refine gate_callee (f := 19) rfl ?_); refine goesL_ (some 104) rfl rfl Try.func19 (by kernel_rfl) rfl #[.agg #[.int .i64 g12, .slice Ao185 g13.length co186], .agg #[.int .i64 g12, .slice Ao75 g13.length co76]] rfl (by (try simp only [List.map_toArray, List.map_cons, List.map_nil]); first | done | rfl | (simp only [List.length_drop, List.length_take]; rfl) | (simp only [iotaSS_length, iota_length]; done) | (simp only [iotaSS_length, iota_length]; rfl)) ?_; (with_reducible refine (laws_eqBraid.calls Kj100 g12 _ _ g13 g12 _ _ g13 true _ ?side1 ?side2 ?side3 ?side4 Aj100).mono ?_); (case side1 => repeat (first | exact (Kd.R_reads' H184.out).2.2 | (with_reducible refine Kd.C_alloc ?_ _) | (with_reducible refine Kd.C_drewN ?_ _) | (with_reducible refine Kd.C_drew ?_))); (case side2 => exact (Kd.R_reads' H184.out).2.1); (case side3 => repeat (first | exact (Kd.R_reads' H74.out).2.2 | (with_reducible refine Kd.C_alloc ?_ _) | (with_reducible refine Kd.C_drewN ?_ _) | (with_reducible refine Kd.C_drew ?_))); (case side4 => exact (Kd.R_reads' H74.out).2.1); rintro e w188 ⟨rfl, hb⟩; refine ⟨_, rfl, ?_⟩; have hs := below_step ((by repeat (first | (with_reducible first | exact Below.refl _ _ | apply below_alloc | apply pw_below_drewN | apply below_drew1) | exact Below.refl _ _)) : Below w187.heap.size w187 _) hb; have Lw188 := Aside0.mk (below_size hs); have n_ := Aside0.mk (Kd.R_below H74.out hs); clear H74; have H74 := n_; clear n_; have n_ := Aside0.mk (Kd.R_below H80.out hs); clear H80; have H80 := n_; clear n_; have n_ := Aside0.mk (Kd.R_below H87.out hs); clear H87; have H87 := n_; clear n_; have n_ := Aside0.mk (Kd.R_below H95.out hs); clear H95; have H95 := n_; clear n_; have n_ := Aside0.mk (Kd.R_below H184.out hs); clear H184; have H184 := n_; clear n_; have n_ := Aside0.mk (blk_below BKgb2.out hs); clear BKgb2; have BKgb2 := n_; clear n_; have n_ := Aside0.mk (blk_below BKgb3.out hs); clear BKgb3; have BKgb3 := n_; clear n_; have n_ := Aside0.mk (blk_below BKgb72.out hs); clear BKgb72; have BKgb72 := n_; clear n_; have n_ := Aside0.mk (blk_below BKgb8.out hs); clear BKgb8; have BKgb8 := n_; clear n_; have n_ := Aside0.mk (blk_below BKgb9.out hs); clear BKgb9; have BKgb9 := n_; clear n_; have n_ := Aside0.mk (blk_below BKgb10.out hs); clear BKgb10; have BKgb10 := n_; clear n_; have n_ := Aside0.mk (blk_below BKgb182.out hs); clear BKgb182; have BKgb182 := n_; clear n_; have n_ := Aside0.mk (below_step HB.out hs); clear HB; have HB := n_; clear n_; clear hs hb; (try clear hczgb2_0 hczgb2_1 hfzgb2_0 hfzgb2_1); have hczgb2_0 : w188.cell? ⟨gb2, 0, none⟩ = some (.int .i64 n0) := (blk_cell BKgb2.out 0).trans rfl; have hczgb2_1 : w188.cell? ⟨gb2, 1, none⟩ = some (.slice A0 l0.length c0) := (blk_cell BKgb2.out 1).trans rfl; have hfzgb2_0 := blk_frozen BKgb2.out 0; have hfzgb2_1 := blk_frozen BKgb2.out 1; (try clear hczgb3_0 hczgb3_1 hfzgb3_0 hfzgb3_1); have hczgb3_0 : w188.cell? ⟨gb3, 0, none⟩ = some (.int .i64 n1) := (blk_cell BKgb3.out 0).trans rfl; have hczgb3_1 : w188.cell? ⟨gb3, 1, none⟩ = some (.slice A1 l1.length c1) := (blk_cell BKgb3.out 1).trans rfl; have hfzgb3_0 := blk_frozen BKgb3.out 0; have hfzgb3_1 := blk_frozen BKgb3.out 1; (try clear hczgb72_0 hczgb72_1 hfzgb72_0 hfzgb72_1); have hczgb72_0 : w188.cell? ⟨gb72, 0, none⟩ = some (.int .i64 g12) := (blk_cell BKgb72.out 0).trans rfl; have hczgb72_1 : w188.cell? ⟨gb72, 1, none⟩ = some (.slice Ao75 g13.length co76) := (blk_cell BKgb72.out 1).trans rfl; have hfzgb72_0 := blk_frozen BKgb72.out 0; have hfzgb72_1 := blk_frozen BKgb72.out 1; (try clear hczgb8_0 hczgb8_1 hfzgb8_0 hfzgb8_1); have hczgb8_0 : w188.cell? ⟨gb8, 0, none⟩ = some (.int .i64 n0) := (blk_cell BKgb8.out 0).trans rfl; have hczgb8_1 : w188.cell? ⟨gb8, 1, none⟩ = some (.slice Ao81 l0.length co82) := (blk_cell BKgb8.out 1).trans rfl; have hfzgb8_0 := blk_frozen BKgb8.out 0; have hfzgb8_1 := blk_frozen BKgb8.out 1; (try clear hczgb9_0 hczgb9_1 hfzgb9_0 hfzgb9_1); have hczgb9_0 : w188.cell? ⟨gb9, 0, none⟩ = some (.int .i64 n1) := (blk_cell BKgb9.out 0).trans rfl; have hczgb9_1 : w188.cell? ⟨gb9, 1, none⟩ = some (.slice Ao88 l1.length co89) := (blk_cell BKgb9.out 1).trans rfl; have hfzgb9_0 := blk_frozen BKgb9.out 0; have hfzgb9_1 := blk_frozen BKgb9.out 1; (try clear hczgb10_0 hczgb10_1 hfzgb10_0 hfzgb10_1); have hczgb10_0 : w188.cell? ⟨gb10, 0, none⟩ = some (.int .i64 g12) := (blk_cell BKgb10.out 0).trans rfl; have hczgb10_1 : w188.cell? ⟨gb10, 1, none⟩ = some (.slice Ao96 g13.length co97) := (blk_cell BKgb10.out 1).trans rfl; have hfzgb10_0 := blk_frozen BKgb10.out 0; have hfzgb10_1 := blk_frozen BKgb10.out 1; (try clear hczgb182_0 hczgb182_1 hfzgb182_0 hfzgb182_1); have hczgb182_0 : w188.cell? ⟨gb182, 0, none⟩ = some (.int .i64 g12) := (blk_cell BKgb182.out 0).trans rfl; have hczgb182_1 : w188.cell? ⟨gb182, 1, none⟩ = some (.slice Ao185 g13.length co186) := (blk_cell BKgb182.out 1).trans rfl; have hfzgb182_0 := blk_frozen BKgb182.out 0; have hfzgb182_1 := blk_frozen BKgb182.out 1) | ((with_reducible refine gate_callee (f := 21) rfl ?_); refine goesL_ (some 113) rfl rfl Try.func21 (by kernel_rfl) rfl #[.agg #[.int .i64 g12, .slice Ao96 (iota 1 g13.length).length co97], .int .i64 1] rfl (by (try simp only [List.map_toArray, List.map_cons, List.map_nil]); first | done | rfl | (simp only [List.length_drop, List.length_take]; rfl) | (simp only [iotaSS_length, iota_length]; done) | (simp only [iotaSS_length, iota_length]; rfl)) ?_; (with_reducible refine (laws_heldBraid.calls Kj123 g12 _ _ ((iota 1 g13.length)) 1 x122 _ ?side1 ?side2 Aj123).mono ?_); (case side1 => repeat (first | exact (Kd.R_reads' H95.out).2.2 | (with_reducible refine Kd.C_alloc ?_ _) | (with_reducible refine Kd.C_drewN ?_ _) | (with_reducible refine Kd.C_drew ?_))); (case side2 => exact (Kd.R_reads' H95.out).2.1); rintro e w189 ⟨rfl, hb⟩; refine ⟨_, rfl, ?_⟩; have hs := below_step ((by repeat (first | (with_reducible first | exact Below.refl _ _ | apply below_alloc | apply pw_below_drewN | apply below_drew1) | exact Below.refl _ _)) : Below w188.heap.size w188 _) hb; have Lw189 := Aside0.mk (below_size hs); have n_ := Aside0.mk (Kd.R_below H74.out hs); clear H74; have H74 := n_; clear n_; have n_ := Aside0.mk (Kd.R_below H80.out hs); clear H80; have H80 := n_; clear n_; have n_ := Aside0.mk (Kd.R_below H87.out hs); clear H87; have H87 := n_; clear n_; have n_ := Aside0.mk (Kd.R_below H95.out hs); clear H95; have H95 := n_; clear n_; have n_ := Aside0.mk (Kd.R_below H184.out hs); clear H184; have H184 := n_; clear n_; have n_ := Aside0.mk (blk_below BKgb2.out hs); clear BKgb2; have BKgb2 := n_; clear n_; have n_ := Aside0.mk (blk_below BKgb3.out hs); clear BKgb3; have BKgb3 := n_; clear n_; have n_ := Aside0.mk (blk_below BKgb72.out hs); clear BKgb72; have BKgb72 := n_; clear n_; have n_ := Aside0.mk (blk_below BKgb8.out hs); clear BKgb8; have BKgb8 := n_; clear n_; have n_ := Aside0.mk (blk_below BKgb9.out hs); clear BKgb9; have BKgb9 := n_; clear n_; have n_ := Aside0.mk (blk_below BKgb10.out hs); clear BKgb10; have BKgb10 := n_; clear n_; have n_ := Aside0.mk (blk_below BKgb182.out hs); clear BKgb182; have BKgb182 := n_; clear n_; have n_ := Aside0.mk (below_step HB.out hs); clear HB; have HB := n_; clear n_; clear hs hb; (try clear hczgb2_0 hczgb2_1 hfzgb2_0 hfzgb2_1); have hczgb2_0 : w189.cell? ⟨gb2, 0, none⟩ = some (.int .i64 n0) := (blk_cell BKgb2.out 0).trans rfl; have hczgb2_1 : w189.cell? ⟨gb2, 1, none⟩ = some (.slice A0 l0.length c0) := (blk_cell BKgb2.out 1).trans rfl; have hfzgb2_0 := blk_frozen BKgb2.out 0; have hfzgb2_1 := blk_frozen BKgb2.out 1; (try clear hczgb3_0 hczgb3_1 hfzgb3_0 hfzgb3_1); have hczgb3_0 : w189.cell? ⟨gb3, 0, none⟩ = some (.int .i64 n1) := (blk_cell BKgb3.out 0).trans rfl; have hczgb3_1 : w189.cell? ⟨gb3, 1, none⟩ = some (.slice A1 l1.length c1) := (blk_cell BKgb3.out 1).trans rfl; have hfzgb3_0 := blk_frozen BKgb3.out 0; have hfzgb3_1 := blk_frozen BKgb3.out 1; (try clear hczgb72_0 hczgb72_1 hfzgb72_0 hfzgb72_1); have hczgb72_0 : w189.cell? ⟨gb72, 0, none⟩ = some (.int .i64 g12) := (blk_cell BKgb72.out 0).trans rfl; have hczgb72_1 : w189.cell? ⟨gb72, 1, none⟩ = some (.slice Ao75 g13.length co76) := (blk_cell BKgb72.out 1).trans rfl; have hfzgb72_0 := blk_frozen BKgb72.out 0; have hfzgb72_1 := blk_frozen BKgb72.out 1; (try clear hczgb8_0 hczgb8_1 hfzgb8_0 hfzgb8_1); have hczgb8_0 : w189.cell? ⟨gb8, 0, none⟩ = some (.int .i64 n0) := (blk_cell BKgb8.out 0).trans rfl; have hczgb8_1 : w189.cell? ⟨gb8, 1, none⟩ = some (.slice Ao81 l0.length co82) := (blk_cell BKgb8.out 1).trans rfl; have hfzgb8_0 := blk_frozen BKgb8.out 0; have hfzgb8_1 := blk_frozen BKgb8.out 1; (try clear hczgb9_0 hczgb9_1 hfzgb9_0 hfzgb9_1); have hczgb9_0 : w189.cell? ⟨gb9, 0, none⟩ = some (.int .i64 n1) := (blk_cell BKgb9.out 0).trans rfl; have hczgb9_1 : w189.cell? ⟨gb9, 1, none⟩ = some (.slice Ao88 l1.length co89) := (blk_cell BKgb9.out 1).trans rfl; have hfzgb9_0 := blk_frozen BKgb9.out 0; have hfzgb9_1 := blk_frozen BKgb9.out 1; (try clear hczgb10_0 hczgb10_1 hfzgb10_0 hfzgb10_1); have hczgb10_0 : w189.cell? ⟨gb10, 0, none⟩ = some (.int .i64 g12) := (blk_cell BKgb10.out 0).trans rfl; have hczgb10_1 : w189.cell? ⟨gb10, 1, none⟩ = some (.slice Ao96 g13.length co97) := (blk_cell BKgb10.out 1).trans rfl; have hfzgb10_0 := blk_frozen BKgb10.out 0; have hfzgb10_1 := blk_frozen BKgb10.out 1; (try clear hczgb182_0 hczgb182_1 hfzgb182_0 hfzgb182_1); have hczgb182_0 : w189.cell? ⟨gb182, 0, none⟩ = some (.int .i64 g12) := (blk_cell BKgb182.out 0).trans rfl; have hczgb182_1 : w189.cell? ⟨gb182, 1, none⟩ = some (.slice Ao185 g13.length co186) := (blk_cell BKgb182.out 1).trans rfl; have hfzgb182_0 := blk_frozen BKgb182.out 0; have hfzgb182_1 := blk_frozen BKgb182.out 1))
  go_ret
  exact ⟨rfl, (by repeat (first | (with_reducible first | exact HB.out | apply below_alloc | apply pw_below_drewN | apply below_drew1) | exact HB.out))⟩

theorem law_calls (n0 : Int) (A0 : Option Addr) (c0 : Nat) (l0 : List Int) (n1 : Int) (A1 : Option Addr) (c1 : Nat) (l1 : List Int) (w : World) (hr0 : Kd.C (Kd.int .i64) w A0 l0.length l0) (hc0 : l0.length ≤ c0) (hr1 : Kd.C (Kd.int .i64) w A1 l1.length l1) (hc1 : l1.length ≤ c1)
    (hm0 : l0.length ≤ maxLen) (hw0 : ∀ x ∈ l0, (Lit.int .i64 x).wf = true) (hm1 : l1.length ≤ maxLen) (hw1 : ∀ x ∈ l1, (Lit.int .i64 x).wf = true) :
    Calls Try.prog 3 #[.agg #[.int .i64 n0, .slice A0 l0.length c0], .agg #[.int .i64 n1, .slice A1 l1.length c1]] w fun e w' => e = .returned (.bool true) ∧ Below w.heap.size w w' := by
  have hs := laws_szBraid.eq n0 l0 1048576 (by omega) (by omega) hm0
  by_cases hz : (1048576 : Int) - l0.length < 0
  · rw [if_pos hz] at hs
    exact early0 n0 A0 c0 l0 n1 A1 c1 l1 _ hs (by omega) w hr0 hc0 hr1 hc1
  rw [if_neg hz] at hs
  have hs2 := laws_szBraid.eq n1 l1 ((1048576 : Int) - l0.length) (by omega) (by omega) hm1
  by_cases hz2 : (1048576 : Int) - l0.length - l1.length < 0
  · rw [if_pos hz2] at hs2
    exact early1 n0 A0 c0 l0 n1 A1 c1 l1 _ hs _ hs2 hz (by omega) w hr0 hc0 hr1 hc1
  rw [if_neg hz2] at hs2
  obtain ⟨m, g, c, hg⟩ : ∃ m g c, conjM n0 l0 n1 l1 = (m, g, c) := ⟨_, _, _, rfl⟩
  have b := conjM_length n0 l0 n1 l1
  have hsp := spec_ConjugateWord.ev n0 l0 n1 l1 (Fits.of hw0) (Fits.of hw1)
  have him := impl_ConjugateWord.ev n0 l0 n1 l1
  rw [hg] at b hsp him
  simp only at b
  obtain ⟨k1, e1⟩ := Ev.rounds (laws_toBraid.ev n0 l0 (by omega))
  obtain ⟨k2, e2⟩ := Ev.rounds (laws_toBraid.ev n1 l1 (by omega))
  obtain ⟨k3, e3⟩ := Ev.rounds hsp
  obtain ⟨k4, e4⟩ := Ev.rounds him
  obtain ⟨k5, e5⟩ := Ev.rounds (laws_eqBraid.ev m m g g (by omega))
  obtain ⟨k6, e6⟩ := Ev.rounds (laws_eqBraid.ev n0 n0 l0 l0 (by omega))
  obtain ⟨k7, e7⟩ := Ev.rounds (laws_eqBraid.ev n1 n1 l1 l1 (by omega))
  obtain ⟨k8, e8⟩ := Ev.rounds (laws_markBraid.ev n0 l0 1 (by omega) (by omega))
  obtain ⟨k9, e9⟩ := Ev.rounds (laws_markBraid.ev n1 l1 (1 + l0.length) (by omega) (by omega))
  obtain ⟨k10, e10⟩ := Ev.rounds (laws_markBraid.ev m g 1 (by omega) (by omega))
  obtain ⟨k11, e11⟩ := Ev.rounds (laws_heldBraid.ev m 1 g.length (by omega) (by omega) (by omega))
  simp only [decide_true, Bool.and_self] at e5 e6 e7
  exact whole n0 A0 c0 l0 n1 A1 c1 l1 _ hs _ hs2 k1 e1 k2 e2 m g c k3 e3 k4 e4 k5 e5 k6 e6 k7 e7 _ rfl k8 e8 _ rfl k9 e9 _ rfl k10 e10 k11 e11 hz hz2 (by omega) (by omega) (by omega) w hr0 hc0 hr1 hc1

end Go.Proofs.Ytjpknbjdikkleaa.WalkFnExactConjugateWord
