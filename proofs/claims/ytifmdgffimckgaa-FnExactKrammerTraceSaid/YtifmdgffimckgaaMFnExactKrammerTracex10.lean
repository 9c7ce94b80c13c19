-- Walks of the functions that a law reaches, one after the other: plain functions, and that the machine's calls come to what they tell (wip/tools/myprint.py of this repo).
import Derived.Test.YtifmdgffimckgaaMFnExactKrammerTracex0
import Derived.Test.YtifmdgffimckgaaMFnExactKrammerTracex6
import Derived.Test.YtifmdgffimckgaaMFnExactKrammerTracex7
import Derived.Test.YtifmdgffimckgaaMFnExactKrammerTracex8
import Derived.Test.YtifmdgffimckgaaMFnExactKrammerTracex9
import Derived.Test.YtifmdgffimckgaaLibArr
import Derived.Test.YtifmdgffimckgaaLibMx
import Derived.Test.YtifmdgffimckgaaLibPi
import Derived.Test.YtifmdgffimckgaaLibKr
namespace Go.Proofs.Ytifmdgffimckgaa.MFnExactKrammerTrace
open Go.RowKit Go.Proofs.YtifmdgffimckgaaW.PrintWords Go.Proofs.YtifmdgffimckgaaW.PrintLast Go.Proofs.YtifmdgffimckgaaW.PrintMore
open Go.Proofs.Ytifmdgffimckgaa.LibKr
open Go.Proofs.Ytifmdgffimckgaa.LibPi
open Go.Proofs.Ytifmdgffimckgaa.LibMx
open Go.Proofs.Ytifmdgffimckgaa.LibArr
attribute [local go_sem] max2_int min2_int max_two min_two max_three min_three max_four min_four   -- for this text's walks alone
set_option linter.unusedVariables false
set_option linter.unusedSimpArgs false

/-! ### impl_KrammerMatrix: function 18 -/
noncomputable abbrev kr_RI : Value → Option (DataW Unit × List MemPlace) := plainElem Try.prog 3
theorem kr_laid : laidOutB Try.prog = true := by kernel_rfl
theorem kr_keyed : Maps.Keyed Try.prog 64 := Maps.Keyed.of_law (deep_law_laid kr_laid (m := 2) (by omega) (of_decide_eq_true (by kernel_rfl)) (by kernel_rfl) (by rw [Try.underlying64]))
noncomputable def kr_KL (i j : Int) : Lit := (keyOf Try.prog 64 (.agg #[.int .i64 i, .int .i64 j])).getD (.bool false)
theorem kr_some : ∀ i ∈ List.range 9, ∀ j ∈ List.range 9, (keyOf Try.prog 64 (.agg #[.int .i64 (i : Int), .int .i64 (j : Int)])).isSome = true := by decide +kernel
theorem kr_KOk : kr.KOk Try.prog 64 kr_KL := by
  intro i j hi hj
  have h := kr_some i.toNat (by simp; omega) j.toNat (by simp; omega)
  rw [show ((i.toNat : Nat) : Int) = i by omega, show ((j.toNat : Nat) : Int) = j by omega] at h
  unfold kr_KL
  obtain ⟨x, hx⟩ := Option.isSome_iff_exists.1 h
  rw [hx]
  rfl
set_option maxHeartbeats 8000000 in
set_option maxRecDepth 100000 in
theorem kr_pow (x : Int) (e : Nat) (he : e ≤ 100) (w : World) : Calls Try.prog 53 #[.int .i64 x, .int .i64 (e : Int)] w fun ex w' => ex = .returned (.int .i64 (kr.pw x e)) ∧ Below w.heap.size w w' := by
  have HB := Aside0.mk (Below.refl w.heap.size w)
  have HE := Aside0.mk he
  clear he
  go_enter Try.func53, Try.ntmps53
  go_wp2
  go_loopg [5, 7] (e + 1) (fun kq v5 v7 wr => ∃ (i : Int) (q : Nat), v7 = .int .i64 i ∧ v5 = .int .i64 (kr.pw x i.toNat) ∧ Aside0 (q < kq) ∧ Aside0 ((q : Int) + i = (e : Int) ∧ 0 ≤ i) ∧ Aside0 (Below w.heap.size w wr))
  case atStart => exact ⟨0, e, (by first | rfl | (simp; done) | (simp [*]; done)), (by first | rfl | (simp; done) | (simp [*]; done)), ⟨by omega⟩, ⟨by omega⟩, ⟨(by repeat (first | (with_reducible first | exact HB.out | apply below_alloc | apply pw_below_drewN | apply below_drew1) | exact HB.out))⟩⟩
  case round =>
    clear HB
    obtain ⟨i, q, rfl, rfl, HQ, HI, HB⟩ := hrel
    cases gk with
    | zero => exact absurd HQ.out (Nat.not_lt_zero _)
    | succ k1_ =>
    cases q with
    | zero =>
      have cib : decide (i < (e : Int)) = false := decide_eq_false (by have := HI.out; omega)
      have HF : Aside0 (i.toNat = e) := ⟨by have := HI.out; omega⟩
      rw [HF.out]
      go_wp2
      go_ret
      exact ⟨rfl, (by repeat (first | (with_reducible first | exact HB.out | apply below_alloc | apply pw_below_drewN | apply below_drew1) | exact HB.out))⟩
    | succ q =>
      have hi0 : 0 ≤ i := HI.out.2
      have hi1 : i < (e : Int) := by have := HI.out; omega
      have cib : decide (i < (e : Int)) = true := decide_eq_true hi1
      have HW := Aside0.mk (show wrap64 (i + 1) = i + 1 by have := HE.out; unfold wrap64; omega)
      have HP : Aside0 (Int.tmod (wrap64 (kr.pw x i.toNat * x)) 10007 = kr.pw x (i + 1).toNat) := ⟨by rw [show (i + 1).toNat = i.toNat + 1 by omega]; rfl⟩
      clear hi0 hi1
      go_wp2
      go_roundg k1_
      case measure => omega
      case rel =>
        exact ⟨wrap64 (i + 1), q, (by first | rfl | (simp; done) | (simp [*]; done)), by first | (rw [HW.out, HP.out]; done) | (rw [HW.out, ← HP.out]; done), ⟨by have := HQ.out; omega⟩, ⟨by have := HI.out; rw [HW.out]; omega⟩, ⟨(by repeat (first | (with_reducible first | exact HB.out | apply below_alloc | apply pw_below_drewN | apply below_drew1) | exact HB.out))⟩⟩
set_option maxHeartbeats 8000000 in
set_option maxRecDepth 100000 in
theorem kr_pairs (n : Nat) (hn : 1 ≤ n ∧ n ≤ 8) (w : World) : Calls Try.prog 51 #[.int .i64 (n : Int)] w fun e w' => ∃ (nn : Nat) (D : DataW Unit), e = .returned (.map (some w.heap.size)) ∧ World.ownsMap w' Try.prog 64 kr_RI w.heap.size nn D ∧ nn ≤ 100 ∧ kr.PM kr_KL D (kr.PF n) ∧ Below w.heap.size w w' := by
  have hmm := @run_makeMap Try.prog
  have HB := Aside0.mk (Below.refl w.heap.size w)
  have HN := Aside0.mk hn
  clear hn
  go_enter Try.func51, Try.ntmps51
  go_wp2
  have OM := Aside0.mk (World.ownsMap_made w Try.prog 64 kr_RI)
  go_loopg [4] (n + 1) (fun kq v4 wr => ∃ (i : Int) (q nn : Nat) (D : DataW Unit) (pl : kr.PP), v4 = .int .i64 i ∧ Aside0 (q < kq) ∧ Aside0 ((q : Int) + i = (n : Int) + 1 ∧ 1 ≤ i) ∧ Aside0 (World.ownsMap wr Try.prog 64 kr_RI w.heap.size nn D) ∧ Aside0 (nn = pl.length ∧ kr.PM kr_KL D pl) ∧ Aside0 (pl ++ kr.PR q i = kr.PF n) ∧ Aside0 (Below w.heap.size w wr))
  case atStart => exact ⟨1, n, 0, .map [], [], (by first | rfl | (simp; done) | (simp [*]; done)), ⟨by omega⟩, ⟨by omega⟩, OM, ⟨rfl, kr.PM.nil⟩, ⟨rfl⟩, ⟨(by repeat (first | (with_reducible first | exact HB.out | apply below_alloc | apply pw_below_drewN | apply below_drew1) | exact HB.out))⟩⟩
  case round =>
    clear HB OM
    obtain ⟨i, q, nn, D, pl, rfl, HQ, HI, OM, PM, HPL, HB⟩ := hrel
    cases gk with
    | zero => exact absurd HQ.out (Nat.not_lt_zero _)
    | succ k1_ =>
    cases q with
    | zero =>
      have cib : decide (i ≤ (n : Int)) = false := decide_eq_false (by have := HI.out; omega)
      have HF : Aside0 (pl = kr.PF n) := ⟨by have h_ := HPL.out; rw [show kr.PR 0 i = [] from rfl, List.append_nil] at h_; exact h_⟩
      go_wp2
      go_ret
      exact ⟨nn, D, rfl, OM.out, by have h_ := PM.out.1; rw [HF.out] at h_; have := kr.PF_len28 n HN.out.2; omega, by have h_ := PM.out.2; rw [HF.out] at h_; exact h_, (by repeat (first | (with_reducible first | exact HB.out | apply below_alloc | apply pw_below_drewN | apply below_drew1) | exact HB.out))⟩
    | succ q =>
      have hi1 : i ≤ (n : Int) := by have := HI.out; omega
      have cib : decide (i ≤ (n : Int)) = true := decide_eq_true hi1
      have HI1 := Aside0.mk hi1
      clear hi1
      have HW := Aside0.mk (show wrap64 (i + 1) = i + 1 by have := HI1.out; have := HI.out; have := HN.out; unfold wrap64; omega)
      go_wp2
      go_loopg [5] (n + 2) (fun kq v5 wr2 => ∃ (j : Int) (e nn : Nat) (D : DataW Unit) (pl : kr.PP), v5 = .int .i64 j ∧ Aside0 (e < kq) ∧ Aside0 ((e : Int) + j = (n : Int) + 1 ∧ i + 1 ≤ j) ∧ Aside0 (World.ownsMap wr2 Try.prog 64 kr_RI w.heap.size nn D) ∧ Aside0 (nn = pl.length ∧ kr.PM kr_KL D pl) ∧ Aside0 (pl ++ kr.prow i j e ++ kr.PR q (i + 1) = kr.PF n) ∧ Aside0 (Below w.heap.size w wr2))
      case atStart => exact ⟨i + 1, q, nn, D, pl, by first | rfl | (rw [HW.out]; done) | (simp only [HW.out]; done), ⟨by have := HI.out; have := HN.out; omega⟩, ⟨by have := HI.out; omega⟩, OM, PM, ⟨by have h_ := HPL.out; rw [show kr.PR (q + 1) i = kr.prow i (i + 1) q ++ kr.PR q (i + 1) from rfl, ← List.append_assoc] at h_; exact h_⟩, ⟨(by repeat (first | (with_reducible first | exact HB.out | apply below_alloc | apply pw_below_drewN | apply below_drew1) | exact HB.out))⟩⟩
      case round =>
        clear HB OM PM HPL
        obtain ⟨j, e, nn, D, pl, rfl, HE, HJ, OM, PM, HPL, HB⟩ := hrel
        obtain ⟨wk, rfl⟩ : ∃ x, x = wr := ⟨_, rfl⟩
        cases gk with
        | zero => exact absurd HE.out (Nat.not_lt_zero _)
        | succ k2_ =>
        cases e with
        | zero =>
          have cjb : decide (j ≤ (n : Int)) = false := decide_eq_false (by have := HJ.out; omega)
          go_wp2
          go_roundg k1_
          case measure => omega
          case rel =>
            exact ⟨i + 1, q, nn, D, pl, by first | rfl | (rw [HW.out]; done) | (simp only [HW.out]; done), ⟨by have := HQ.out; omega⟩, ⟨by have := HI.out; omega⟩, OM, PM, ⟨by have h_ := HPL.out; rw [show kr.prow i j 0 = [] from rfl, List.append_nil] at h_; exact h_⟩, ⟨(by repeat (first | (with_reducible first | exact HB.out | apply below_alloc | apply pw_below_drewN | apply below_drew1) | exact HB.out))⟩⟩
        | succ e =>
          have hj1 : j ≤ (n : Int) := by have := HJ.out; omega
          have cjb : decide (j ≤ (n : Int)) = true := decide_eq_true hj1
          have HJ1 := Aside0.mk hj1
          clear hj1
          have HWJ := Aside0.mk (show wrap64 (j + 1) = j + 1 by have := HJ1.out; have := HJ.out; have := HI.out; have := HN.out; unfold wrap64; omega)
          have HP2 : Aside0 ((pl ++ [(i, j)]) ++ kr.prow i (j + 1) e ++ kr.PR q (i + 1) = kr.PF n) := ⟨by have h_ := HPL.out; rw [show kr.prow i j (e + 1) = (i, j) :: kr.prow i (j + 1) e from rfl] at h_; rw [← h_]; simp⟩
          have HIN : Aside0 (∀ p ∈ pl ++ [(i, j)], kr.inR n p) := ⟨fun p hp => kr.PF_in n HN.out.2 p (by rw [← HP2.out, List.append_assoc]; exact List.mem_append_left _ hp)⟩
          have HNI : Aside0 ((i, j) ∉ pl) := ⟨by have h_ := kr.PF_nodup n HN.out.2; rw [← HP2.out, List.append_assoc] at h_; have h2_ := (List.nodup_append.1 h_).1; intro hm_; exact absurd rfl ((List.nodup_append.1 h2_).2.2 _ hm_ (i, j) (by simp))⟩
          have HLE : Aside0 (pl.length ≤ 28) := ⟨by have h_ := kr.PF_len28 n HN.out.2; rw [← HP2.out] at h_; simp only [List.length_append] at h_; omega⟩
          have HKEY : Aside0 (keyOf Try.prog 64 (.agg #[.int .i64 i, .int .i64 j]) = some (kr_KL i j)) := ⟨by have := HI.out; have := HI1.out; have := HJ.out; have := HJ1.out; have := HN.out; exact kr_KOk i j (by omega) (by omega)⟩
          have HSV : Aside0 (kr_RI (.int .i64 (Maps.size D : Int)) = some (.lit (.int .i64 (Maps.size D : Int)), [])) := ⟨plainElem_int Try.underlying3 (WalkArith.wf_i64 (by have h_ := PM.out.2.1; have := HLE.out; rw [h_]; omega))⟩
          have HNM : Aside0 (nn < maxLen) := ⟨by have := PM.out.1; have := HLE.out; unfold maxLen; omega⟩
          have HTD := Aside0.mk (OM.out.tidy kr_keyed)
          go_wp2_with (first | (at_len; refine wpList_len_own _ rfl (.tmp 23) 62 rfl 64 3 Try.underlying62 kr_RI w.heap.size nn D rfl OM.out ?_) | (at_mapUpdate; refine wpList_mapUpdate_own _ rfl (.tmp 19) (.tmp 22) (.tmp 24) 62 rfl 64 3 kr_keyed Try.underlying62 kr_RI w.heap.size nn D rfl OM.out HNM.out _ _ (kr_KL i j) rfl rfl HKEY.out (.lit (.int .i64 (Maps.size D : Int))) [] HSV.out ?_; intro w2 hom hgr; have n_ := Aside0.mk (pw_below_grown HB.out (some w.heap.size) (below_size HB.out) hgr (fun k_ e_ => by cases e_; exact Nat.le_refl _)); clear HB; have HB := n_; clear n_; clear OM; have OM := Aside0.mk hom; clear hom hgr))
          go_roundg k2_
          case measure => omega
          case rel =>
            exact ⟨j + 1, e, nn + 1, _, pl ++ [(i, j)], by first | rfl | (rw [HWJ.out]; done) | (simp only [HWJ.out]; done), ⟨by have := HE.out; omega⟩, ⟨by have := HJ.out; omega⟩, OM, ⟨by have := PM.out.1; simp; omega, kr.PM.step kr_KOk kr_keyed PM.out.2 HTD.out (fun r hr => by have h_ := HIN.out r (List.mem_append_left _ hr); have := HN.out; unfold kr.inR at h_; omega) (i, j) (by have h_ := HIN.out (i, j) (by simp); have := HN.out; unfold kr.inR at h_; simp only at h_ ⊢; omega) HNI.out⟩, HP2, ⟨(by repeat (first | (with_reducible first | exact HB.out | apply below_alloc | apply pw_below_drewN | apply below_drew1) | exact HB.out))⟩⟩
def krp.T1 : Bool × List (List Nat × List Nat) := (true, [([], []), ([], []), ([0, 1], [0, 1]), ([2], [2]), ([], []), ([], []), ([], []), ([5, 6], [5, 6]), ([7], [7]), ([], []), ([8, 9], [8, 9]), ([10], [10]), ([], []), ([11, 12], [11, 12]), ([13], [13]), ([3, 4, 0, 1, 2, 3, 4, 5, 6, 7, 8, 9, 10, 11, 12, 13, 14], [3, 4]), ([15, 14, 14, 0, 1, 2, 3, 4, 5, 6, 7, 8, 9, 10, 11, 12, 13, 14], [14, 15])])
def krp.B1 : List Nat := [0, 0, 3, 7, 0, 0, 0, 96, 224, 0, 992, 2016, 0, 8160, 16352, 32767, 65535]
theorem krp.tab1 : rtab .any (opsOf Try.f52 1) = krp.T1 := by kernel_rfl
theorem krp.bits1 : waitsOk krp.T1.2 krp.B1 = true := by kernel_rfl
set_option maxHeartbeats 8000000 in
set_option maxRecDepth 100000 in
theorem kr_put (n nn m : Nat) (hn : n ≤ 8) (hnm : m = (kr.PF n).length) (a b v xi : Int) (hab : kr.inR n (a, b)) (hx : 0 ≤ xi ∧ xi < m) (L : List (List Int)) (hq : iv.Sq m L) (D : DataW Unit) (hpm : kr.PM kr_KL D (kr.PF n)) (base gm ga go gx G cG : Nat) (ok : Nat → Prop) (W : World)
    (hmap : World.ownsMap W Try.prog 64 kr_RI gm nn D) (hza : (W).cell? ⟨ga, 0, none⟩ = some (.map (some gm))) (hzo : (W).cell? ⟨go, 0, none⟩ = some (.slice (some ⟨G, 0, none⟩) m cG)) (hzx : (W).cell? ⟨gx, 0, none⟩ = some (.int .i64 xi)) (HM : Mx 2 22 W base ok (.slice (some ⟨G, 0, none⟩) m cG) L) :
    Calls Try.prog 52 #[.int .i64 a, .int .i64 b, .int .i64 v, .pointer (some ⟨ga, 0, none⟩), .pointer (some ⟨go, 0, none⟩), .pointer (some ⟨gx, 0, none⟩)] W fun e W' => e = .returned (.tuple #[]) ∧ Mx 2 22 W' base ok (.slice (some ⟨G, 0, none⟩) m cG) (kr.adM n L xi (a, b, v)) ∧ ∃ gr, ok gr ∧ base ≤ gr ∧ W.grownBy W' (some gr) := by
  have hu := Try.underlying64
  obtain ⟨y, hy⟩ : ∃ y : Int, ((kr.ix n (a, b) : Nat) : Int) = y := ⟨_, rfl⟩
  have HY : Aside0 (0 ≤ y ∧ y < (m : Int)) := ⟨by have := kr.ix_lt hn hab; omega⟩
  have hlk : ∃ kl, keyOf Try.prog 64 (.agg #[.int .i64 a, .int .i64 b]) = some kl ∧ ∀ z, D.atKey kl z = .lit (.int .i64 y) := by
    have h1_ := hab
    unfold kr.inR at h1_
    simp only at h1_
    exact ⟨_, kr_KOk a b (by omega) (by omega), fun z => by rw [← hy]; exact (hpm.2.2 (kr.ix n (a, b)) (a, b) (kr.ix_at hn hab)).2 z⟩
  obtain ⟨kl, hkey, hat⟩ := hlk
  obtain ⟨cv, hrun, hcv, _⟩ := hmap.lookup_int kr_keyed Try.underlying62 Try.underlying3 (by kernel_rfl) hkey
  rw [hat] at hcv
  have e_ : y = cv := by cases hcv; rfl
  subst e_
  clear hcv hat hkey hmap hpm
  have HX := Aside0.mk hx
  have HADM : Aside0 (∀ u, u = iv.gt L xi y → kr.adM n L xi (a, b, v) = iv.pt L xi y (iv.inF (wrap64 (u + v)))) := ⟨fun u hu_ => by unfold kr.adM; simp only; rw [hy, ← hu_]⟩
  have hm0 : 0 < m := by omega
  have px0 : (0 ≤ xi) = True := eq_true hx.1
  have px1 : (xi < (m : Int)) = True := eq_true hx.2
  have py0 : (0 ≤ y) = True := eq_true HY.out.1
  have py1 : (y < (m : Int)) = True := eq_true HY.out.2
  have HMX := Aside0.mk HM
  have HQ := Aside0.mk hq
  have HB2 := Aside0.mk (Below.refl W.heap.size W)
  have HM0 := Aside0.mk hm0
  clear HM hq hx hab hnm hm0 hy
  obtain ⟨u, hu_⟩ : ∃ u, iv.gt L xi y = u := ⟨_, rfl⟩
  have HU := Aside0.mk hu_
  go_enter Try.func52, Try.ntmps52
  go_wp2
  obtain ⟨gA, cA, hA2, _, bA, kA, nA, cellA, putA⟩ := mx_atm HMX.out xi HX.out.1 HX.out.2 (HQ.out.at xi HX.out.1 HX.out.2) HM0.out
  obtain ⟨hzu, hf_⟩ := cellA y HY.out.1 HY.out.2
  have hp_ := putA y (iv.inF (wrap64 (u + v))) HY.out.1 HY.out.2
  rw [HU.out] at hzu
  clear cellA putA
  clear hf_ hp_ bA kA nA
  have n_ := Aside0.mk (Kd.S_drew HMX.out); clear HMX; have HMX := n_; clear n_
  have n_ := Aside0.mk (below_drew1 HB2.out); clear HB2; have HB2 := n_; clear n_
  have hzo := cell_drew hzo
  have hzx := cell_drew hzx
  have hA2 := cell_drew hA2
  have hzu := cell_drew hzu
  refine start_ (n := 17) (S := fun w' => w'.cell? ⟨go, 0, none⟩ = some (.slice (some ⟨G, 0, none⟩) m cG) ∧ w'.cell? ⟨gx, 0, none⟩ = some (.int .i64 xi) ∧ w'.cell? ⟨G, xi.toNat, none⟩ = some (.slice (some ⟨gA, 0, none⟩) m cA) ∧ w'.cell? ⟨gA, y.toNat, none⟩ = some (.int .i64 u)) (ds := [16]) #[false, false, false, false, false, false, false, false, false, false, false, false, false, false, false, false, false] (by kernel_rfl) rfl rfl ⟨hzo, hzx, hA2, hzu⟩ (fun hHeld => ?_)
  refine with_tabW krp.tab1 krp.bits1 (fun HT_ HW_ => ?_)
  generalize W.drew = w10 at HMX HB2 hzo hzx hA2 hzu hHeld ⊢
  refine pure_ (i := 4) (N := some 19) (v := ?_) (a' := ?_) #[false, false, false, false, true, false, false, false, false, false, false, false, false, false, false, false, false] rfl rfl (any_of HT_.out (by kernel_rfl)) (fun _ _ _ h => h) (Or.inl ⟨by rfl, ?_⟩) ?_ ?_
  rotate_left
  · intro w'
    go_simp
    with_reducible rfl
  rotate_left
  · simp only [Act.put, List.setIfInBounds_toArray, List.set_cons_zero, List.set_cons_succ, i64_w, i32_w]
    rfl
  refine pure_ (i := 9) (N := some 24) (v := ?_) (a' := ?_) #[false, false, false, false, true, false, false, false, false, true, false, false, false, false, false, false, false] rfl rfl (any_of HT_.out (by kernel_rfl)) (fun _ _ _ h => h) (Or.inl ⟨by rfl, ?_⟩) ?_ ?_
  rotate_left
  · intro w'
    go_simp
    with_reducible rfl
  rotate_left
  · simp only [Act.put, List.setIfInBounds_toArray, List.set_cons_zero, List.set_cons_succ, i64_w, i32_w]
    rfl
  refine pure_ (i := 12) (N := some 27) (v := ?_) (a' := ?_) #[false, false, false, false, true, false, false, false, false, true, false, false, true, false, false, false, false] rfl rfl (any_of HT_.out (by kernel_rfl)) (fun _ _ _ h => h) (Or.inl ⟨by rfl, ?_⟩) ?_ ?_
  rotate_left
  · intro w'
    go_simp
    with_reducible rfl
  rotate_left
  · simp only [Act.put, List.setIfInBounds_toArray, List.set_cons_zero, List.set_cons_succ, i64_w, i32_w]
    rfl
  refine take_ (i := 0) (N := some 15) (v := ?_) (a' := ?_) #[true, false, false, false, true, false, false, false, false, true, false, false, true, false, false, false, false] rfl rfl (take_ofW HT_.out HW_.out (by kernel_rfl)) (fun _ _ _ h => h) (Or.inl ⟨by rfl, ?_⟩) hHeld ?_ ?_
  rotate_left
  · rintro w' ⟨s0, s1, s2, s3⟩
    go_simp
    with_reducible rfl
  rotate_left
  · simp only [Act.put, List.setIfInBounds_toArray, List.set_cons_zero, List.set_cons_succ, i64_w, i32_w]
    rfl
  refine take_ (i := 1) (N := some 16) (v := ?_) (a' := ?_) #[true, true, false, false, true, false, false, false, false, true, false, false, true, false, false, false, false] rfl rfl (take_ofW HT_.out HW_.out (by kernel_rfl)) (fun _ _ _ h => h) (Or.inl ⟨by rfl, ?_⟩) hHeld ?_ ?_
  rotate_left
  · rintro w' ⟨s0, s1, s2, s3⟩
    go_simp
    with_reducible rfl
  rotate_left
  · simp only [Act.put, List.setIfInBounds_toArray, List.set_cons_zero, List.set_cons_succ, i64_w, i32_w]
    rfl
  refine pure_ (i := 2) (N := some 17) (v := ?_) (a' := ?_) #[true, true, true, false, true, false, false, false, false, true, false, false, true, false, false, false, false] rfl rfl (any_of HT_.out (by kernel_rfl)) (fun _ _ _ h => h) (Or.inl ⟨by rfl, ?_⟩) ?_ ?_
  rotate_left
  · intro w'
    go_simp
    with_reducible rfl
  rotate_left
  · simp only [Act.put, List.setIfInBounds_toArray, List.set_cons_zero, List.set_cons_succ, i64_w, i32_w]
    rfl
  refine take_ (i := 3) (N := some 18) (v := ?_) (a' := ?_) #[true, true, true, true, true, false, false, false, false, true, false, false, true, false, false, false, false] rfl rfl (take_ofW HT_.out HW_.out (by kernel_rfl)) (fun _ _ _ h => h) (Or.inl ⟨by rfl, ?_⟩) hHeld ?_ ?_
  rotate_left
  · rintro w' ⟨s0, s1, s2, s3⟩
    go_simp
    with_reducible rfl
  rotate_left
  · simp only [Act.put, List.setIfInBounds_toArray, List.set_cons_zero, List.set_cons_succ, i64_w, i32_w]
    rfl
  refine take_ (i := 5) (N := some 20) (v := ?_) (a' := ?_) #[true, true, true, true, true, true, false, false, false, true, false, false, true, false, false, false, false] rfl rfl (take_ofW HT_.out HW_.out (by kernel_rfl)) (fun _ _ _ h => h) (Or.inl ⟨by rfl, ?_⟩) hHeld ?_ ?_
  rotate_left
  · rintro w' ⟨s0, s1, s2, s3⟩
    go_simp
    with_reducible rfl
  rotate_left
  · simp only [Act.put, List.setIfInBounds_toArray, List.set_cons_zero, List.set_cons_succ, i64_w, i32_w]
    rfl
  refine take_ (i := 6) (N := some 21) (v := ?_) (a' := ?_) #[true, true, true, true, true, true, true, false, false, true, false, false, true, false, false, false, false] rfl rfl (take_ofW HT_.out HW_.out (by kernel_rfl)) (fun _ _ _ h => h) (Or.inl ⟨by rfl, ?_⟩) hHeld ?_ ?_
  rotate_left
  · rintro w' ⟨s0, s1, s2, s3⟩
    go_simp
    with_reducible rfl
  rotate_left
  · simp only [Act.put, List.setIfInBounds_toArray, List.set_cons_zero, List.set_cons_succ, i64_w, i32_w]
    rfl
  refine pure_ (i := 7) (N := some 22) (v := ?_) (a' := ?_) #[true, true, true, true, true, true, true, true, false, true, false, false, true, false, false, false, false] rfl rfl (any_of HT_.out (by kernel_rfl)) (fun _ _ _ h => h) (Or.inl ⟨by rfl, ?_⟩) ?_ ?_
  rotate_left
  · intro w'
    go_simp
    with_reducible rfl
  rotate_left
  · simp only [Act.put, List.setIfInBounds_toArray, List.set_cons_zero, List.set_cons_succ, i64_w, i32_w]
    rfl
  refine take_ (i := 8) (N := some 23) (v := ?_) (a' := ?_) #[true, true, true, true, true, true, true, true, true, true, false, false, true, false, false, false, false] rfl rfl (take_ofW HT_.out HW_.out (by kernel_rfl)) (fun _ _ _ h => h) (Or.inl ⟨by rfl, ?_⟩) hHeld ?_ ?_
  rotate_left
  · rintro w' ⟨s0, s1, s2, s3⟩
    go_simp
    with_reducible rfl
  rotate_left
  · simp only [Act.put, List.setIfInBounds_toArray, List.set_cons_zero, List.set_cons_succ, i64_w, i32_w]
    rfl
  refine pure_ (i := 10) (N := some 25) (v := ?_) (a' := ?_) #[true, true, true, true, true, true, true, true, true, true, true, false, true, false, false, false, false] rfl rfl (any_of HT_.out (by kernel_rfl)) (fun _ _ _ h => h) (Or.inl ⟨by rfl, ?_⟩) ?_ ?_
  rotate_left
  · intro w'
    go_simp
    with_reducible rfl
  rotate_left
  · simp only [Act.put, List.setIfInBounds_toArray, List.set_cons_zero, List.set_cons_succ, i64_w, i32_w]
    rfl
  refine take_ (i := 11) (N := some 26) (v := ?_) (a' := ?_) #[true, true, true, true, true, true, true, true, true, true, true, true, true, false, false, false, false] rfl rfl (take_ofW HT_.out HW_.out (by kernel_rfl)) (fun _ _ _ h => h) (Or.inl ⟨by rfl, ?_⟩) hHeld ?_ ?_
  rotate_left
  · rintro w' ⟨s0, s1, s2, s3⟩
    go_simp
    with_reducible rfl
  rotate_left
  · simp only [Act.put, List.setIfInBounds_toArray, List.set_cons_zero, List.set_cons_succ, i64_w, i32_w]
    rfl
  refine pure_ (i := 13) (N := some 28) (v := ?_) (a' := ?_) #[true, true, true, true, true, true, true, true, true, true, true, true, true, true, false, false, false] rfl rfl (any_of HT_.out (by kernel_rfl)) (fun _ _ _ h => h) (Or.inl ⟨by rfl, ?_⟩) ?_ ?_
  rotate_left
  · intro w'
    go_simp
    with_reducible rfl
  rotate_left
  · simp only [Act.put, List.setIfInBounds_toArray, List.set_cons_zero, List.set_cons_succ, i64_w, i32_w]
    rfl
  refine one_ (i := 14) (N := some 29) #[true, true, true, true, true, true, true, true, true, true, true, true, true, true, true, false, false] rfl rfl (one_of HT_.out (by kernel_rfl)) (by decide) (fun K hK => ?_)
  refine goes_ Try.func28 (by kernel_rfl) rfl #[.int .i64 (wrap64 (u + v))] (by rfl) rfl rfl (by (try simp only [List.map_toArray, List.map_cons, List.map_nil]); first | done | rfl) ?_
  refine (impl_inField.calls (wrap64 (u + v)) (iv.inF (wrap64 (u + v))) _ rfl).mono ?_
  rintro e wf ⟨rfl, ⟨nd, rfl⟩⟩
  refine ⟨_, rfl, ?_⟩
  have m0_ := Aside0.mk (Kd.S_drewN HMX.out nd)
  have m1_ := Aside0.mk (pw_below_drewN HB2.out nd)
  have k0_ : (World.drewN w10 nd).cell? ⟨go, 0, none⟩ = some (.slice (some ⟨G, 0, none⟩) m cG) := hzo
  have k1_ : (World.drewN w10 nd).cell? ⟨gx, 0, none⟩ = some (.int .i64 xi) := hzx
  have k2_ : (World.drewN w10 nd).cell? ⟨G, xi.toNat, none⟩ = some (.slice (some ⟨gA, 0, none⟩) m cA) := hA2
  have k3_ : (World.drewN w10 nd).cell? ⟨gA, y.toNat, none⟩ = some (.int .i64 u) := hzu
  clear HMX HB2 hzo hzx hA2 hzu hHeld
  generalize World.drewN w10 nd = w10 at m0_ m1_ k0_ k1_ k2_ k3_ ⊢
  have HMX := m0_
  have HB2 := m1_
  clear m0_ m1_
  refine hK.out _ _ ⟨k0_, k1_, k2_, k3_⟩ (fun hHeld => ?_)
  clear hK K
  have hzo := k0_
  have hzx := k1_
  have hA2 := k2_
  have hzu := k3_
  clear k0_ k1_ k2_ k3_
  refine norm_ (a' := ?_) ?_ ?_
  rotate_left
  · show Act.put _ (some 29) _ = _
    simp only [Act.put, List.setIfInBounds_toArray, List.set_cons_zero, List.set_cons_succ, i64_w, i32_w]
    rfl
  obtain ⟨gA', cA', hA3, _, bA, kA, nA, cellA, putA⟩ := mx_atm HMX.out xi HX.out.1 HX.out.2 (HQ.out.at xi HX.out.1 HX.out.2) HM0.out
  obtain ⟨hzu3, hf3⟩ := cellA y HY.out.1 HY.out.2
  have hp3 := putA y (iv.inF (wrap64 (u + v))) HY.out.1 HY.out.2
  rw [HU.out] at hzu3
  clear cellA putA
  have e1_ := Option.some.inj (hA3.symm.trans hA2)
  cases e1_
  clear hA3 hzu3 nA
  refine pure_ (i := 15) (N := some 30) (v := ?_) (a' := ?_) #[true, true, true, true, true, true, true, true, true, true, true, true, true, true, true, true, false] rfl rfl (any_of HT_.out (by kernel_rfl)) (fun _ _ _ h => h) (Or.inl ⟨by rfl, ?_⟩) ?_ ?_
  rotate_left
  · intro w'
    go_simp
    with_reducible rfl
  rotate_left
  · simp only [Act.put, List.setIfInBounds_toArray, List.set_cons_zero, List.set_cons_succ, i64_w, i32_w]
    rfl
  refine last_ (i := 16) (N := none) #[true, true, true, true, true, true, true, true, true, true, true, true, true, true, true, true, true] rfl rfl (one_of HT_.out (by kernel_rfl)) (by decide) (fun K hK => ?_)
  refine skip_ (w1 := ?_) (by rfl) rfl ?_ ?_
  rotate_left
  · first | (go_simp; done) | (go_simp; rfl)
  refine hK.out _ _ ?_
  clear hK K
  refine done_ (done_of HT_.out (by kernel_rfl)) ?_
  have HG : Aside0 (W.grownBy (w10.setCell ⟨gA, y.toNat, none⟩ (.int .i64 (iv.inF (wrap64 (u + v))))) (some gA)) := ⟨World.grownBy.andThen (grown_of_below HB2.out (some gA)) (grown_setCell w10 ⟨gA, y.toNat, none⟩ _) (fun j_ e_ => Or.inr e_)⟩
  have HP3 := Aside0.mk hp3
  clear hp3 hzo hzx hA2 hzu hf3 hHeld HB2 HMX
  generalize World.setCell w10 ⟨gA, y.toNat, none⟩ (.int .i64 (iv.inF (wrap64 (u + v)))) = w11 at HG HP3 ⊢
  go_wp2
  exact bodyPost_end (results_none (by rfl) _ _ _) rfl ⟨rfl, by rw [HADM.out u HU.out.symm]; exact HP3.out, gA, kA, bA, HG.out⟩
set_option maxHeartbeats 8000000 in
set_option maxRecDepth 100000 in
theorem kr_letter (kz n : Nat) (k q t : Int) (hn : 2 ≤ n ∧ n ≤ 8) (hk : 1 ≤ k ∧ k < n) (m : Nat) (hm : m = (kr.PF n).length) (hZ : impl_zeroRows.f kz (m : Int) = some (List.replicate m (List.replicate m 0))) (w : World) :
    Calls Try.prog 36 #[.int .i64 (n : Int), .int .i64 k, .int .i64 q, .int .i64 t] w fun e w' => ∃ v0_ : Value, e = .returned v0_ ∧ Kd.S (Kd.slice 2 (Kd.int .i64)) 22 w' w.heap.size (fun _ => True) v0_ (kr.mat n k q t) ∧ Below w.heap.size w w' := by
  have hu := Try.underlying64
  have HB2 := Aside0.mk (Below.refl w.heap.size w)
  have HN := Aside0.mk hn
  have HK := Aside0.mk hk
  have HM := Aside0.mk hm
  have HZ := Aside0.mk hZ
  have HM28 : Aside0 (1 ≤ m ∧ m ≤ 28) := ⟨by have h1_ := kr.PF_len28 n hn.2; have h2_ := kr.ix_lt hn.2 (p := (1, 2)) (by unfold kr.inR; simp only; omega); omega⟩
  obtain ⟨less, hl_⟩ : ∃ x, iv.inF (wrap64 (q - 1)) = x := ⟨_, rfl⟩
  have HLESS := Aside0.mk hl_
  have HLF : Aside0 (impl_inField.f (wrap64 (q - 1)) = some less) := ⟨by rw [← hl_]; rfl⟩
  clear hl_ hn hk hm hZ
  go_enter Try.func36, Try.ntmps36
  go_wp2_with (first | ((with_reducible refine gate_callee (f := 51) rfl ?_); refine goesL_ (some 18) rfl rfl Try.func51 (by kernel_rfl) rfl #[.int .i64 (n : Int)] rfl (by (try simp only [List.map_toArray, List.map_cons, List.map_nil]); first | done | rfl) ?_; (refine (kr_pairs n (by have h_ := HN.out; omega) _).mono ?_); rintro e w1 ⟨nn, D, rfl, hmap, hnn, hpm, hb⟩; refine ⟨_, rfl, ?_⟩; have OM := Aside0.mk hmap; have PM := Aside0.mk hpm; have n_ := Aside0.mk (below_step (by repeat (first | (with_reducible first | exact HB2.out | apply below_alloc | apply pw_below_drewN | apply below_drew1) | exact HB2.out)) hb); clear HB2; have HB2 := n_; clear n_; have HSZ : Aside0 (Maps.size D = m) := ⟨by rw [HM.out]; exact hpm.1⟩; clear hmap hnn hpm hb) | ((with_reducible refine gate_dst (N := 9) rfl ?_); refine box_event ?hg (N := 9) ?hd (cs := #[.map none]) (t := 62) ?hr ?_; (case hd => rfl); (case hg => rfl); (case hr => first | (go_simp; done) | (go_simp; rfl)); intro ga hg w2 hbox hb; have HGA : Aside0 (w.heap.size < ga) := ⟨by rw [hg]; exact OM.out.lt⟩; have n_ := Aside0.mk (below_step (by repeat (first | (with_reducible first | exact HB2.out | apply below_alloc | apply pw_below_drewN | apply below_drew1) | exact HB2.out)) hb); clear HB2; have HB2 := n_; clear n_; have n_ := Aside0.mk (OM.out.kept (grown_of_below hb none) (by simp)); clear OM; have OM := n_; clear n_; have PTA := Aside0.mk hbox; clear hbox hb hg; (try clear hzga_0 hfga_0); have hzga_0 := (blk_cell PTA.out 0).trans rfl; have hfga_0 := blk_frozen PTA.out 0) | ((with_reducible refine gate_store (t := 62) (p := 9) rfl ?_); (try clear hzga_0 hfga_0); (first | (rw [drewN_self w2]; generalize hq_ : World.drewN w2 _ = w2n) | (rw [drew_self w2]; generalize hq1_ : World.drew w2 = w2n; have hq_ : World.drewN w2 1 = w2n := hq1_; clear hq1_) | (rw [show w2 = World.drewN w2 0 from rfl]; generalize hq_ : World.drewN w2 0 = w2n)); have n_ := Aside0.mk (ar_below_at hq_ HB2.out); clear HB2; have HB2 := n_; clear n_; have n_ := Aside0.mk (owns_at hq_ OM.out); clear OM; have OM := n_; clear n_; have n_ := Aside0.mk (ar_blk_at hq_ PTA.out); clear PTA; have PTA := n_; clear n_; clear hq_; (try clear hzga_0 hfga_0); have hzga_0 := (blk_cell PTA.out 0).trans rfl; have hfga_0 := blk_frozen PTA.out 0; refine store_event (t := 62) (p := 9) (v := ?vo_a) (w1 := (w2n.setCell ⟨ga, 0, none⟩ (.map (some w.heap.size) : Value))) ?hg ?ho ?hn ?hr ?_; (case ho => rfl); (case hg => rfl); (case hn => rfl); (case hr => first | (go_simp; done) | (go_simp; rfl)); intro w3 hw; (try clear hzga_0 hfga_0); have n1_ : Aside0 (w3.heap[ga]? = some (.cells #[(.map (some w.heap.size) : Value)] 62 (0, 0))) := ⟨by rw [hw]; exact (blk_set PTA.out 0 (.map (some w.heap.size) : Value)).trans rfl⟩; have hgr : World.grownBy w2n (w2n.setCell ⟨ga, 0, none⟩ (.map (some w.heap.size) : Value)) (some ga) := grown_setCell w2n ⟨ga, 0, none⟩ (.map (some w.heap.size) : Value); rw [← hw] at hgr; have HNUM : Aside0 (w.heap.size < ga) := HGA; have n_ := Aside0.mk (pw_below_grown HB2.out (some ga) (below_size (by repeat (first | (with_reducible first | exact HB2.out | apply below_alloc | apply pw_below_drewN | apply below_drew1) | exact HB2.out))) hgr (fun k_ e_ => by cases e_; have h1_ := HNUM.out; omega)); clear HB2; have HB2 := n_; clear n_; have n_ := Aside0.mk (OM.out.kept hgr (by intro e_; injection e_ with e_; have h1_ := HNUM.out; omega)); clear OM; have OM := n_; clear n_; clear PTA hw hgr HNUM; have PTA := n1_; clear n1_; (try clear hzga_0 hfga_0); have hzga_0 := (blk_cell PTA.out 0).trans rfl; have hfga_0 := blk_frozen PTA.out 0) | (at_len; refine wpList_len_own _ rfl (.tmp 19) 62 rfl 64 3 Try.underlying62 kr_RI w.heap.size nn D rfl OM.out ?_; rw [HSZ.out]) | ((with_reducible refine gate_callee (f := 49) rfl ?_); refine goesL_ (some 21) rfl rfl Try.func49 (by kernel_rfl) rfl #[.int .i64 (m : Int)] rfl (by (try simp only [List.map_toArray, List.map_cons, List.map_nil]); first | done | rfl) ?_; (with_reducible refine (impl_zeroRows.calls kz (m : Int) _ _ HZ.out).mono ?_); rintro e w4 ⟨vZ, rfl, ho0, hb⟩; refine ⟨_, rfl, ?_⟩; obtain ⟨gL, cL, eL, _, _, _⟩ := Kd.S_form ho0 (by rw [List.length_replicate]; exact HM28.out.1); rw [List.length_replicate] at eL; subst eL; have SL := Aside0.mk (Kd.S_lower (Kd.S_mono (ok' := fun k_ => ga < k_) (Kd.S_bound ho0) (fun k_ hk_ => Nat.lt_of_lt_of_le (blk_lt PTA.out) hk_.2.1)) (below_size (by repeat (first | (with_reducible first | exact HB2.out | apply below_alloc | apply pw_below_drewN | apply below_drew1) | exact HB2.out)))); clear ho0; have n_ := Aside0.mk (below_step (by repeat (first | (with_reducible first | exact HB2.out | apply below_alloc | apply pw_below_drewN | apply below_drew1) | exact HB2.out)) hb); clear HB2; have HB2 := n_; clear n_; have n_ := Aside0.mk (OM.out.kept (grown_of_below hb none) (by simp)); clear OM; have OM := n_; clear n_; have n_ := Aside0.mk (blk_below PTA.out hb); clear PTA; have PTA := n_; clear n_; clear hb; (try clear hzga_0 hfga_0); have hzga_0 := (blk_cell PTA.out 0).trans rfl; have hfga_0 := blk_frozen PTA.out 0) | ((with_reducible refine gate_dst (N := 10) rfl ?_); refine box_event ?hg (N := 10) ?hd (cs := #[.slice none 0 0]) (t := 26) ?hr ?_; (case hd => rfl); (case hg => rfl); (case hr => first | (go_simp; done) | (go_simp; rfl)); intro go hg w5 hbox hb; have HGO : Aside0 (w.heap.size < ga ∧ ga < go) := ⟨HGA.out, by rw [hg]; exact blk_lt PTA.out⟩; have n_ := Aside0.mk (Kd.S_below (Kd.S_mono (ok' := fun k_ => ga < k_ ∧ k_ < go) (Kd.S_bound SL.out) (fun k_ hk_ => ⟨hk_.1, by rw [hg]; exact hk_.2.2.1⟩)) hb); clear SL; have SL := n_; clear n_; have n_ := Aside0.mk (below_step (by repeat (first | (with_reducible first | exact HB2.out | apply below_alloc | apply pw_below_drewN | apply below_drew1) | exact HB2.out)) hb); clear HB2; have HB2 := n_; clear n_; have n_ := Aside0.mk (OM.out.kept (grown_of_below hb none) (by simp)); clear OM; have OM := n_; clear n_; have n_ := Aside0.mk (blk_below PTA.out hb); clear PTA; have PTA := n_; clear n_; have PTO := Aside0.mk hbox; clear hbox hb hg; (try clear hzga_0 hfga_0); have hzga_0 := (blk_cell PTA.out 0).trans rfl; have hfga_0 := blk_frozen PTA.out 0; (try clear hzgo_0 hfgo_0); have hzgo_0 := (blk_cell PTO.out 0).trans rfl; have hfgo_0 := blk_frozen PTO.out 0) | ((with_reducible refine gate_store (t := 26) (p := 10) rfl ?_); (try clear hzga_0 hfga_0); (try clear hzgo_0 hfgo_0); (first | (rw [drewN_self w5]; generalize hq_ : World.drewN w5 _ = w5n) | (rw [drew_self w5]; generalize hq1_ : World.drew w5 = w5n; have hq_ : World.drewN w5 1 = w5n := hq1_; clear hq1_) | (rw [show w5 = World.drewN w5 0 from rfl]; generalize hq_ : World.drewN w5 0 = w5n)); have n_ := Aside0.mk (ar_below_at hq_ HB2.out); clear HB2; have HB2 := n_; clear n_; have n_ := Aside0.mk (owns_at hq_ OM.out); clear OM; have OM := n_; clear n_; have n_ := Aside0.mk (ar_blk_at hq_ PTA.out); clear PTA; have PTA := n_; clear n_; have n_ := Aside0.mk (Kd.S_at hq_ SL.out); clear SL; have SL := n_; clear n_; have n_ := Aside0.mk (ar_blk_at hq_ PTO.out); clear PTO; have PTO := n_; clear n_; clear hq_; (try clear hzga_0 hfga_0); have hzga_0 := (blk_cell PTA.out 0).trans rfl; have hfga_0 := blk_frozen PTA.out 0; (try clear hzgo_0 hfgo_0); have hzgo_0 := (blk_cell PTO.out 0).trans rfl; have hfgo_0 := blk_frozen PTO.out 0; refine store_event (t := 26) (p := 10) (v := ?vo_b) (w1 := (w5n.setCell ⟨go, 0, none⟩ (.slice (some ⟨gL, 0, none⟩) m cL : Value))) ?hg ?ho ?hn ?hr ?_; (case ho => rfl); (case hg => rfl); (case hn => rfl); (case hr => first | (go_simp; done) | (go_simp; rfl)); intro w6 hw; (try clear hzga_0 hfga_0); (try clear hzgo_0 hfgo_0); have n1_ : Aside0 (w6.heap[go]? = some (.cells #[(.slice (some ⟨gL, 0, none⟩) m cL : Value)] 26 (0, 0))) := ⟨by rw [hw]; exact (blk_set PTO.out 0 (.slice (some ⟨gL, 0, none⟩) m cL : Value)).trans rfl⟩; have hgr : World.grownBy w5n (w5n.setCell ⟨go, 0, none⟩ (.slice (some ⟨gL, 0, none⟩) m cL : Value)) (some go) := grown_setCell w5n ⟨go, 0, none⟩ (.slice (some ⟨gL, 0, none⟩) m cL : Value); rw [← hw] at hgr; have HNUM := HGO; have n_ := Aside0.mk (pw_below_grown HB2.out (some go) (below_size (by repeat (first | (with_reducible first | exact HB2.out | apply below_alloc | apply pw_below_drewN | apply below_drew1) | exact HB2.out))) hgr (fun k_ e_ => by cases e_; have h1_ := HNUM.out; omega)); clear HB2; have HB2 := n_; clear n_; have n_ := Aside0.mk (OM.out.kept hgr (by intro e_; injection e_ with e_; have h1_ := HNUM.out; omega)); clear OM; have OM := n_; clear n_; have n_ := Aside0.mk (blk_grown PTA.out hgr (by intro e_; injection e_ with e_; have h1_ := HNUM.out; omega)); clear PTA; have PTA := n_; clear n_; have n_ := Aside0.mk (Kd.S_grown SL.out hgr (fun k_ hk3_ => by have hk4_ : ga < k_ ∧ k_ < go := hk3_; intro e_; injection e_ with e_; have h1_ := HNUM.out; omega)); clear SL; have SL := n_; clear n_; clear PTO hw hgr HNUM; have PTO := n1_; clear n1_; (try clear hzga_0 hfga_0); have hzga_0 := (blk_cell PTA.out 0).trans rfl; have hfga_0 := blk_frozen PTA.out 0; (try clear hzgo_0 hfgo_0); have hzgo_0 := (blk_cell PTO.out 0).trans rfl; have hfgo_0 := blk_frozen PTO.out 0) | ((with_reducible refine gate_callee (f := 28) rfl ?_); refine goesL_ (some 24) rfl rfl Try.func28 (by kernel_rfl) rfl #[.int .i64 (wrap64 (q - 1))] rfl (by (try simp only [List.map_toArray, List.map_cons, List.map_nil]); first | done | rfl) ?_; (with_reducible refine (impl_inField.calls (wrap64 (q - 1)) less _ HLF.out).mono ?_); rintro e w' ⟨rfl, ⟨nd, rfl⟩⟩; refine ⟨_, rfl, ?_⟩; (try clear hzga_0 hfga_0); (try clear hzgo_0 hfgo_0); (first | (rw [drewN_self w6]; generalize hq_ : World.drewN w6 _ = w7) | (rw [drew_self w6]; generalize hq1_ : World.drew w6 = w7; have hq_ : World.drewN w6 1 = w7 := hq1_; clear hq1_) | (rw [show w6 = World.drewN w6 0 from rfl]; generalize hq_ : World.drewN w6 0 = w7)); have n_ := Aside0.mk (ar_below_at hq_ HB2.out); clear HB2; have HB2 := n_; clear n_; have n_ := Aside0.mk (owns_at hq_ OM.out); clear OM; have OM := n_; clear n_; have n_ := Aside0.mk (ar_blk_at hq_ PTA.out); clear PTA; have PTA := n_; clear n_; have n_ := Aside0.mk (Kd.S_at hq_ SL.out); clear SL; have SL := n_; clear n_; have n_ := Aside0.mk (ar_blk_at hq_ PTO.out); clear PTO; have PTO := n_; clear n_; clear hq_; (try clear hzga_0 hfga_0); have hzga_0 := (blk_cell PTA.out 0).trans rfl; have hfga_0 := blk_frozen PTA.out 0; (try clear hzgo_0 hfgo_0); have hzgo_0 := (blk_cell PTO.out 0).trans rfl; have hfgo_0 := blk_frozen PTO.out 0) | (at_range; refine wpList_range_own _ rfl (.tmp 25) 62 rfl 64 3 kr_keyed Try.underlying62 kr_RI w.heap.size nn D rfl OM.out ?_; intro w8 hrg hgr hsz_; obtain ⟨r, hr_⟩ : ∃ x, x = w7.heap.size := ⟨_, rfl⟩; rw [← hr_] at hrg ⊢; have HNUM : Aside0 ((w.heap.size < ga ∧ ga < go) ∧ go < r) := ⟨HGO.out, by rw [hr_]; exact blk_lt PTO.out⟩; have RG := Aside0.mk hrg; (try clear hzga_0 hfga_0); (try clear hzgo_0 hfgo_0); have n_ := Aside0.mk (blk_grown PTA.out hgr (by simp)); clear PTA; have PTA := n_; clear n_; have n_ := Aside0.mk (blk_grown PTO.out hgr (by simp)); clear PTO; have PTO := n_; clear n_; have n_ := Aside0.mk (Kd.S_grown SL.out hgr (fun k_ _ => by simp)); clear SL; have SL := n_; clear n_; have n_ := Aside0.mk (pw_below_grown HB2.out none (below_size HB2.out) hgr (fun k_ e_ => by cases e_)); clear HB2; have HB2 := n_; clear n_; clear OM hrg hgr hsz_ hr_))
  go_frame
  go_loopg [] (m + 1) (fun kq wr => ∃ (left : Lit → Bool) (cnt : Nat) (L : List (List Int)), Aside0 (cnt < kq) ∧ Aside0 (World.ranges wr Try.prog 64 kr_RI w.heap.size r nn D left cnt) ∧ Aside0 (∀ kl, left kl = true → Maps.has D kl = true) ∧ Aside0 (kr.RO n k q t kr_KL left L) ∧ Aside0 (Mx 2 22 wr w.heap.size (fun k_ => ga < k_ ∧ k_ < go) (.slice (some ⟨gL, 0, none⟩) m cL) L) ∧ Aside0 (wr.heap[ga]? = some (.cells #[(.map (some w.heap.size) : Value)] 62 (0, 0))) ∧ Aside0 (wr.heap[go]? = some (.cells #[(.slice (some ⟨gL, 0, none⟩) m cL : Value)] 26 (0, 0))) ∧ Aside0 (Below w.heap.size w wr))
  case atStart => exact ⟨Maps.has D, Maps.size D, List.replicate m (List.replicate m 0), ⟨by have := HSZ.out; omega⟩, RG, ⟨fun _ h_ => h_⟩, ⟨by have h_ := HM.out; subst h_; exact kr.RO.start (fun x p hx => (PM.out.2.2 x p hx).1)⟩, ⟨(by (with_reducible repeat (first | apply Kd.S_alloc | apply Kd.S_drewN | apply Kd.S_drew)); exact SL.out)⟩, PTA, PTO, ⟨(by repeat (first | (with_reducible first | exact HB2.out | apply below_alloc | apply pw_below_drewN | apply below_drew1) | exact HB2.out))⟩⟩
  case round =>
    clear RG SL PTA PTO HB2
    obtain ⟨left, cnt, L, HC, RG, HL, HRO, SL, PTA, PTO, HB2⟩ := hrel
    obtain ⟨wk, rfl⟩ : ∃ x, x = wr := ⟨_, rfl⟩
    cases gk with
    | zero => exact absurd HC.out (Nat.not_lt_zero _)
    | succ k1_ =>
      (try clear hzga_0 hfga_0)
      (try clear hzgo_0 hfgo_0)
      (try clear hzga_0 hfga_0)
      have hzga_0 := (blk_cell PTA.out 0).trans rfl
      have hfga_0 := blk_frozen PTA.out 0
      (try clear hzgo_0 hfgo_0)
      have hzgo_0 := (blk_cell PTO.out 0).trans rfl
      have hfgo_0 := blk_frozen PTO.out 0
      go_upto_region 6 with (first | (at_next; refine wpList_next_ranges _ rfl (.tmp 26) rfl 64 kr_keyed kr_RI id (Value.int .i64) (fun key kl h => ⟨key, rfl⟩) (fun v y h => by obtain ⟨c, rfl, _⟩ := plainElem_int_inv Try.underlying3 h; exact ⟨c, rfl⟩) w.heap.size r nn D left cnt rfl RG.out (fun hc0 hl0 => ?_) (fun x c kl y v1 cnt1 hkey hlk hv hat hrg hlt hgr hsz_ hen => ?_)))
      · have n_ : Aside0 (Mx 2 22 wk w.heap.size (fun k_ => ga < k_ ∧ k_ < go) (.slice (some ⟨gL, 0, none⟩) m cL) (kr.mat n k q t)) := ⟨by rw [← kr.RO.done HRO.out hl0]; exact SL.out⟩
        go_ret
        exact ⟨_, rfl, Kd.S_mono (by (with_reducible repeat (first | apply Kd.S_alloc | apply Kd.S_drewN | apply Kd.S_drew)); exact n_.out) (fun _ _ => trivial), (by repeat (first | (with_reducible first | exact HB2.out | apply below_alloc | apply pw_below_drewN | apply below_drew1) | exact HB2.out))⟩
      obtain ⟨i, j, xn, ek_, ec_, hpx, ekl_, hin⟩ := kr.entry_of kr_KOk kr_keyed Try.underlying3 HN.out.2 PM.out hkey (HL.out kl hlk) hv hat
      have ek2_ : x = .agg #[.int .i64 i, .int .i64 j] := ek_
      subst ek2_ ec_ ekl_
      dsimp only [id] at hen
      (try dsimp only [id])
      clear ek_ hkey hv hat
      have HPX := Aside0.mk hpx
      have HIN : Aside0 (1 ≤ i ∧ i < j ∧ j ≤ n) := ⟨hin⟩
      have HXL : Aside0 (xn < L.length ∧ xn < m) := ⟨by have h1_ := (List.getElem?_eq_some_iff.1 hpx).1; have h2_ := HRO.out.1; have h3_ := HM.out; omega⟩
      have HROW : Aside0 (L.getD xn [] = List.replicate (kr.PF n).length 0) := ⟨by rw [HRO.out.2 xn (i, j) hpx, if_pos hlk]⟩
      have HSQ : Aside0 (iv.Sq m L) := ⟨by rw [HM.out]; exact ⟨HRO.out.1, HRO.out.Sq⟩⟩
      have HLT := Aside0.mk hlt
      clear hpx hin hlt hlk
      (try clear hzga_0 hfga_0)
      (try clear hzgo_0 hfgo_0)
      have n_ := Aside0.mk (pw_below_grown HB2.out (some r) (below_size (by repeat (first | (with_reducible first | exact HB2.out | apply below_alloc | apply pw_below_drewN | apply below_drew1) | exact HB2.out))) hgr (fun k_ e_ => by cases e_; have h1_ := HNUM.out; omega)); clear HB2; have HB2 := n_; clear n_
      have n_ := Aside0.mk (blk_grown PTA.out hgr (by intro e_; injection e_ with e_; have h1_ := HNUM.out; omega)); clear PTA; have PTA := n_; clear n_
      have n_ := Aside0.mk (blk_grown PTO.out hgr (by intro e_; injection e_ with e_; have h1_ := HNUM.out; omega)); clear PTO; have PTO := n_; clear n_
      have n_ := Aside0.mk (Kd.S_grown SL.out hgr (fun k_ hk3_ => by have hk4_ : ga < k_ ∧ k_ < go := hk3_; intro e_; injection e_ with e_; have h1_ := HNUM.out; omega)); clear SL; have SL := n_; clear n_
      clear RG
      have RG := Aside0.mk hrg
      clear hrg hgr hsz_
      (try clear hzga_0 hfga_0)
      have hzga_0 := (blk_cell PTA.out 0).trans rfl
      have hfga_0 := blk_frozen PTA.out 0
      (try clear hzgo_0 hfgo_0)
      have hzgo_0 := (blk_cell PTO.out 0).trans rfl
      have hfgo_0 := blk_frozen PTO.out 0
      go_wp2_with (first | ((with_reducible refine gate_dst (N := 12) rfl ?_); refine box_event ?hg (N := 12) ?hd (cs := #[.int .i64 0, .int .i64 0]) (t := 64) ?hr ?_; (case hd => rfl); (case hg => rfl); (case hr => first | (go_simp; done) | (go_simp; rfl)); intro g12 hg v2 hbox hb; have HG12 : Aside0 (r < g12) := ⟨by rw [hg]; exact RG.out.lt⟩; have n_ := Aside0.mk (below_step (by repeat (first | (with_reducible first | exact HB2.out | apply below_alloc | apply pw_below_drewN | apply below_drew1) | exact HB2.out)) hb); clear HB2; have HB2 := n_; clear n_; have n_ := Aside0.mk (blk_below PTA.out hb); clear PTA; have PTA := n_; clear n_; have n_ := Aside0.mk (blk_below PTO.out hb); clear PTO; have PTO := n_; clear n_; have n_ := Aside0.mk (Kd.S_below SL.out hb); clear SL; have SL := n_; clear n_; have n_ := Aside0.mk (RG.out.kept (grown_of_below hb none) (by simp) (by simp)); clear RG; have RG := n_; clear n_; have PTP := Aside0.mk hbox; clear hbox hb hg; (try clear hzga_0 hfga_0); have hzga_0 := (blk_cell PTA.out 0).trans rfl; have hfga_0 := blk_frozen PTA.out 0; (try clear hzgo_0 hfgo_0); have hzgo_0 := (blk_cell PTO.out 0).trans rfl; have hfgo_0 := blk_frozen PTO.out 0; (try clear hzg12_0 hfg12_0 hzg12_1 hfg12_1); have hzg12_0 := (blk_cell PTP.out 0).trans rfl; have hfg12_0 := blk_frozen PTP.out 0; have hzg12_1 := (blk_cell PTP.out 1).trans rfl; have hfg12_1 := blk_frozen PTP.out 1) | ((with_reducible refine gate_dst (N := 13) rfl ?_); refine box_event ?hg (N := 13) ?hd (cs := #[.int .i64 0]) (t := 3) ?hr ?_; (case hd => rfl); (case hg => rfl); (case hr => first | (go_simp; done) | (go_simp; rfl)); intro g13 hg v3 hbox hb; have HG13 : Aside0 (g12 < g13) := ⟨by rw [hg]; exact blk_lt PTP.out⟩; have n_ := Aside0.mk (below_step (by repeat (first | (with_reducible first | exact HB2.out | apply below_alloc | apply pw_below_drewN | apply below_drew1) | exact HB2.out)) hb); clear HB2; have HB2 := n_; clear n_; have n_ := Aside0.mk (blk_below PTA.out hb); clear PTA; have PTA := n_; clear n_; have n_ := Aside0.mk (blk_below PTO.out hb); clear PTO; have PTO := n_; clear n_; have n_ := Aside0.mk (Kd.S_below SL.out hb); clear SL; have SL := n_; clear n_; have n_ := Aside0.mk (RG.out.kept (grown_of_below hb none) (by simp) (by simp)); clear RG; have RG := n_; clear n_; have n_ := Aside0.mk (blk_below PTP.out hb); clear PTP; have PTP := n_; clear n_; have PTX := Aside0.mk hbox; clear hbox hb hg; (try clear hzga_0 hfga_0); have hzga_0 := (blk_cell PTA.out 0).trans rfl; have hfga_0 := blk_frozen PTA.out 0; (try clear hzgo_0 hfgo_0); have hzgo_0 := (blk_cell PTO.out 0).trans rfl; have hfgo_0 := blk_frozen PTO.out 0; (try clear hzg12_0 hfg12_0 hzg12_1 hfg12_1); have hzg12_0 := (blk_cell PTP.out 0).trans rfl; have hfg12_0 := blk_frozen PTP.out 0; have hzg12_1 := (blk_cell PTP.out 1).trans rfl; have hfg12_1 := blk_frozen PTP.out 1; (try clear hzg13_0 hfg13_0); have hzg13_0 := (blk_cell PTX.out 0).trans rfl; have hfg13_0 := blk_frozen PTX.out 0) | ((with_reducible refine gate_store (t := 64) (p := 12) rfl ?_); (try clear hzga_0 hfga_0); (try clear hzgo_0 hfgo_0); (try clear hzg12_0 hfg12_0 hzg12_1 hfg12_1); (try clear hzg13_0 hfg13_0); (first | (rw [drewN_self v3]; generalize hq_ : World.drewN v3 _ = v3n) | (rw [drew_self v3]; generalize hq1_ : World.drew v3 = v3n; have hq_ : World.drewN v3 1 = v3n := hq1_; clear hq1_) | (rw [show v3 = World.drewN v3 0 from rfl]; generalize hq_ : World.drewN v3 0 = v3n)); have n_ := Aside0.mk (ar_below_at hq_ HB2.out); clear HB2; have HB2 := n_; clear n_; have n_ := Aside0.mk (ar_blk_at hq_ PTA.out); clear PTA; have PTA := n_; clear n_; have n_ := Aside0.mk (ar_blk_at hq_ PTO.out); clear PTO; have PTO := n_; clear n_; have n_ := Aside0.mk (Kd.S_at hq_ SL.out); clear SL; have SL := n_; clear n_; have n_ := Aside0.mk (ranges_at hq_ RG.out); clear RG; have RG := n_; clear n_; have n_ := Aside0.mk (ar_blk_at hq_ PTP.out); clear PTP; have PTP := n_; clear n_; have n_ := Aside0.mk (ar_blk_at hq_ PTX.out); clear PTX; have PTX := n_; clear n_; clear hq_; refine ar_store (by rfl) 64 _ _ (by rfl) g12 [.int .i64 0, .int .i64 0] [.int .i64 i, .int .i64 j] (by rfl) (by rfl) (by rfl) PTP.out (by rfl) (by kernel_rfl) (by intro v hv; simp only [List.mem_cons, List.not_mem_nil, or_false] at hv; rcases hv with rfl | rfl <;> rfl) ?_; intro v4 hst hkp hB_; have hgr := grown_of_kept hkp (hB_ 0 v3n (Below.refl 0 v3n) (Nat.zero_le _)); have n_ := Aside0.mk (pw_below_grown HB2.out (some g12) (below_size (by repeat (first | (with_reducible first | exact HB2.out | apply below_alloc | apply pw_below_drewN | apply below_drew1) | exact HB2.out))) hgr (fun k_ e_ => by cases e_; have h1_ := HNUM.out; have h2_ := HG12.out; have h3_ := HG13.out; omega)); clear HB2; have HB2 := n_; clear n_; have n_ := Aside0.mk (blk_grown PTA.out hgr (by intro e_; injection e_ with e_; have h1_ := HNUM.out; have h2_ := HG12.out; have h3_ := HG13.out; omega)); clear PTA; have PTA := n_; clear n_; have n_ := Aside0.mk (blk_grown PTO.out hgr (by intro e_; injection e_ with e_; have h1_ := HNUM.out; have h2_ := HG12.out; have h3_ := HG13.out; omega)); clear PTO; have PTO := n_; clear n_; have n_ := Aside0.mk (Kd.S_grown SL.out hgr (fun k_ hk3_ => by have hk4_ : ga < k_ ∧ k_ < go := hk3_; intro e_; injection e_ with e_; have h1_ := HNUM.out; have h2_ := HG12.out; have h3_ := HG13.out; omega)); clear SL; have SL := n_; clear n_; have n_ := Aside0.mk (RG.out.kept hgr (by intro e_; injection e_ with e_; have h1_ := HNUM.out; have h2_ := HG12.out; have h3_ := HG13.out; omega) (by intro e_; injection e_ with e_; have h1_ := HNUM.out; have h2_ := HG12.out; have h3_ := HG13.out; omega)); clear RG; have RG := n_; clear n_; have n_ := Aside0.mk (blk_grown PTX.out hgr (by intro e_; injection e_ with e_; have h1_ := HNUM.out; have h2_ := HG12.out; have h3_ := HG13.out; omega)); clear PTX; have PTX := n_; clear n_; clear PTP; have PTP := Aside0.mk hst; clear hst hkp hB_ hgr; (try clear hzga_0 hfga_0); have hzga_0 := (blk_cell PTA.out 0).trans rfl; have hfga_0 := blk_frozen PTA.out 0; (try clear hzgo_0 hfgo_0); have hzgo_0 := (blk_cell PTO.out 0).trans rfl; have hfgo_0 := blk_frozen PTO.out 0; (try clear hzg12_0 hfg12_0 hzg12_1 hfg12_1); have hzg12_0 := (blk_cell PTP.out 0).trans rfl; have hfg12_0 := blk_frozen PTP.out 0; have hzg12_1 := (blk_cell PTP.out 1).trans rfl; have hfg12_1 := blk_frozen PTP.out 1; (try clear hzg13_0 hfg13_0); have hzg13_0 := (blk_cell PTX.out 0).trans rfl; have hfg13_0 := blk_frozen PTX.out 0) | ((with_reducible refine gate_store (t := 3) (p := 13) rfl ?_); (try clear hzga_0 hfga_0); (try clear hzgo_0 hfgo_0); (try clear hzg12_0 hfg12_0 hzg12_1 hfg12_1); (try clear hzg13_0 hfg13_0); (first | (rw [drewN_self v4]; generalize hq_ : World.drewN v4 _ = v4n) | (rw [drew_self v4]; generalize hq1_ : World.drew v4 = v4n; have hq_ : World.drewN v4 1 = v4n := hq1_; clear hq1_) | (rw [show v4 = World.drewN v4 0 from rfl]; generalize hq_ : World.drewN v4 0 = v4n)); have n_ := Aside0.mk (ar_below_at hq_ HB2.out); clear HB2; have HB2 := n_; clear n_; have n_ := Aside0.mk (ar_blk_at hq_ PTA.out); clear PTA; have PTA := n_; clear n_; have n_ := Aside0.mk (ar_blk_at hq_ PTO.out); clear PTO; have PTO := n_; clear n_; have n_ := Aside0.mk (Kd.S_at hq_ SL.out); clear SL; have SL := n_; clear n_; have n_ := Aside0.mk (ranges_at hq_ RG.out); clear RG; have RG := n_; clear n_; have n_ := Aside0.mk (ar_blk_at hq_ PTP.out); clear PTP; have PTP := n_; clear n_; have n_ := Aside0.mk (ar_blk_at hq_ PTX.out); clear PTX; have PTX := n_; clear n_; clear hq_; (try clear hzga_0 hfga_0); have hzga_0 := (blk_cell PTA.out 0).trans rfl; have hfga_0 := blk_frozen PTA.out 0; (try clear hzgo_0 hfgo_0); have hzgo_0 := (blk_cell PTO.out 0).trans rfl; have hfgo_0 := blk_frozen PTO.out 0; (try clear hzg12_0 hfg12_0 hzg12_1 hfg12_1); have hzg12_0 := (blk_cell PTP.out 0).trans rfl; have hfg12_0 := blk_frozen PTP.out 0; have hzg12_1 := (blk_cell PTP.out 1).trans rfl; have hfg12_1 := blk_frozen PTP.out 1; (try clear hzg13_0 hfg13_0); have hzg13_0 := (blk_cell PTX.out 0).trans rfl; have hfg13_0 := blk_frozen PTX.out 0; refine store_event (t := 3) (p := 13) (v := ?vo_c) (w1 := (v4n.setCell ⟨g13, 0, none⟩ (.int .i64 (xn : Int) : Value))) ?hg ?ho ?hn ?hr ?_; (case ho => rfl); (case hg => rfl); (case hn => rfl); (case hr => first | (go_simp; done) | (go_simp; rfl)); intro v5 hw; (try clear hzga_0 hfga_0); (try clear hzgo_0 hfgo_0); (try clear hzg12_0 hfg12_0 hzg12_1 hfg12_1); (try clear hzg13_0 hfg13_0); have n1_ : Aside0 (v5.heap[g13]? = some (.cells #[(.int .i64 (xn : Int) : Value)] 3 (0, 0))) := ⟨by rw [hw]; exact (blk_set PTX.out 0 (.int .i64 (xn : Int) : Value)).trans rfl⟩; have hgr : World.grownBy v4n (v4n.setCell ⟨g13, 0, none⟩ (.int .i64 (xn : Int) : Value)) (some g13) := grown_setCell v4n ⟨g13, 0, none⟩ (.int .i64 (xn : Int) : Value); rw [← hw] at hgr; have n_ := Aside0.mk (pw_below_grown HB2.out (some g13) (below_size (by repeat (first | (with_reducible first | exact HB2.out | apply below_alloc | apply pw_below_drewN | apply below_drew1) | exact HB2.out))) hgr (fun k_ e_ => by cases e_; have h1_ := HNUM.out; have h2_ := HG12.out; have h3_ := HG13.out; omega)); clear HB2; have HB2 := n_; clear n_; have n_ := Aside0.mk (blk_grown PTA.out hgr (by intro e_; injection e_ with e_; have h1_ := HNUM.out; have h2_ := HG12.out; have h3_ := HG13.out; omega)); clear PTA; have PTA := n_; clear n_; have n_ := Aside0.mk (blk_grown PTO.out hgr (by intro e_; injection e_ with e_; have h1_ := HNUM.out; have h2_ := HG12.out; have h3_ := HG13.out; omega)); clear PTO; have PTO := n_; clear n_; have n_ := Aside0.mk (Kd.S_grown SL.out hgr (fun k_ hk3_ => by have hk4_ : ga < k_ ∧ k_ < go := hk3_; intro e_; injection e_ with e_; have h1_ := HNUM.out; have h2_ := HG12.out; have h3_ := HG13.out; omega)); clear SL; have SL := n_; clear n_; have n_ := Aside0.mk (RG.out.kept hgr (by intro e_; injection e_ with e_; have h1_ := HNUM.out; have h2_ := HG12.out; have h3_ := HG13.out; omega) (by intro e_; injection e_ with e_; have h1_ := HNUM.out; have h2_ := HG12.out; have h3_ := HG13.out; omega)); clear RG; have RG := n_; clear n_; have n_ := Aside0.mk (blk_grown PTP.out hgr (by intro e_; injection e_ with e_; have h1_ := HNUM.out; have h2_ := HG12.out; have h3_ := HG13.out; omega)); clear PTP; have PTP := n_; clear n_; clear PTX hw hgr; have PTX := n1_; clear n1_; (try clear hzga_0 hfga_0); have hzga_0 := (blk_cell PTA.out 0).trans rfl; have hfga_0 := blk_frozen PTA.out 0; (try clear hzgo_0 hfgo_0); have hzgo_0 := (blk_cell PTO.out 0).trans rfl; have hfgo_0 := blk_frozen PTO.out 0; (try clear hzg12_0 hfg12_0 hzg12_1 hfg12_1); have hzg12_0 := (blk_cell PTP.out 0).trans rfl; have hfg12_0 := blk_frozen PTP.out 0; have hzg12_1 := (blk_cell PTP.out 1).trans rfl; have hfg12_1 := blk_frozen PTP.out 1; (try clear hzg13_0 hfg13_0); have hzg13_0 := (blk_cell PTX.out 0).trans rfl; have hfg13_0 := blk_frozen PTX.out 0))
      go_quiet (fail)
      (try clear hzga_0 hfga_0)
      (try clear hzgo_0 hfgo_0)
      (try clear hzg12_0 hfg12_0 hzg12_1 hfg12_1)
      (try clear hzg13_0 hfg13_0)
      (first | (rw [drewN_self v5]; generalize hq_ : World.drewN v5 _ = v6) | (rw [drew_self v5]; generalize hq1_ : World.drew v5 = v6; have hq_ : World.drewN v5 1 = v6 := hq1_; clear hq1_) | (rw [show v5 = World.drewN v5 0 from rfl]; generalize hq_ : World.drewN v5 0 = v6))
      have n_ := Aside0.mk (ar_below_at hq_ HB2.out); clear HB2; have HB2 := n_; clear n_
      have n_ := Aside0.mk (ar_blk_at hq_ PTA.out); clear PTA; have PTA := n_; clear n_
      have n_ := Aside0.mk (ar_blk_at hq_ PTO.out); clear PTO; have PTO := n_; clear n_
      have n_ := Aside0.mk (Kd.S_at hq_ SL.out); clear SL; have SL := n_; clear n_
      have n_ := Aside0.mk (ranges_at hq_ RG.out); clear RG; have RG := n_; clear n_
      have n_ := Aside0.mk (ar_blk_at hq_ PTP.out); clear PTP; have PTP := n_; clear n_
      have n_ := Aside0.mk (ar_blk_at hq_ PTX.out); clear PTX; have PTX := n_; clear n_
      clear hq_
      (try clear hzga_0 hfga_0)
      have hzga_0 := (blk_cell PTA.out 0).trans rfl
      have hfga_0 := blk_frozen PTA.out 0
      (try clear hzgo_0 hfgo_0)
      have hzgo_0 := (blk_cell PTO.out 0).trans rfl
      have hfgo_0 := blk_frozen PTO.out 0
      (try clear hzg13_0 hfg13_0)
      have hzg13_0 := (blk_cell PTX.out 0).trans rfl
      have hfg13_0 := blk_frozen PTX.out 0
      clear PTP
      obtain ⟨k2, hk2⟩ : ∃ x, wrap64 (k + 1) = x := ⟨_, rfl⟩
      have HK2 : Aside0 (k2 = k + 1) := ⟨by rw [← hk2]; have h1_ := HK.out; have h2_ := HN.out; unfold wrap64; omega⟩
      by_cases c1 : i = k
      · by_cases c2 : j = k2
        · skip
          have HAB_59 : Aside0 (kr.inR n (k, k2)) := ⟨by unfold kr.inR; simp only; have h1_ := HIN.out; have h2_ := HK.out; have h3_ := HK2.out; omega⟩
          have c1_0 : decide (i = k) = true := decide_eq_true c1
          have c1_1 : (i == k) = true := by simp [c1]
          have c2_0 : decide (j = k2) = true := decide_eq_true c2
          have c2_1 : (j == k2) = true := by simp [c2]
          have HE100 : Aside0 (2 ≤ 100) := ⟨by omega⟩
          go_wp2_with (first | ((with_reducible refine gate_callee (f := 53) rfl ?_); refine goesL_ (some 57) rfl rfl Try.func53 (by kernel_rfl) rfl #[.int .i64 q, .int .i64 (2)] rfl (by (try simp only [List.map_toArray, List.map_cons, List.map_nil]); first | done | rfl | (rw [← hk2]; rfl) | (rw [← hE2]; rfl) | (rw [← hE2, ← hki]; rfl)) ?_; refine (kr_pow q 2 HE100.out _).mono ?_; rintro e_ v7 ⟨rfl, hb⟩; refine ⟨_, rfl, ?_⟩; have n_ := Aside0.mk (below_step (by repeat (first | (with_reducible first | exact HB2.out | apply below_alloc | apply pw_below_drewN | apply below_drew1) | exact HB2.out)) hb); clear HB2; have HB2 := n_; clear n_; have n_ := Aside0.mk (blk_below PTA.out hb); clear PTA; have PTA := n_; clear n_; have n_ := Aside0.mk (blk_below PTO.out hb); clear PTO; have PTO := n_; clear n_; have n_ := Aside0.mk (RG.out.kept (grown_of_below hb none) (by simp) (by simp)); clear RG; have RG := n_; clear n_; have n_ := Aside0.mk (blk_below PTX.out hb); clear PTX; have PTX := n_; clear n_; have n_ := Aside0.mk (Kd.S_below SL.out hb); clear SL; have SL := n_; clear n_; clear hb; (try clear hzga_0 hfga_0); have hzga_0 := (blk_cell PTA.out 0).trans rfl; have hfga_0 := blk_frozen PTA.out 0; (try clear hzgo_0 hfgo_0); have hzgo_0 := (blk_cell PTO.out 0).trans rfl; have hfgo_0 := blk_frozen PTO.out 0; (try clear hzg13_0 hfg13_0); have hzg13_0 := (blk_cell PTX.out 0).trans rfl; have hfg13_0 := blk_frozen PTX.out 0) | ((with_reducible refine gate_dst (N := 59) rfl ?_); refine goesF_ (some 59) rfl rfl Try.func52 (by kernel_rfl) rfl #[.int .i64 (k), .int .i64 (k2), .int .i64 (wrap64 (t * kr.pw q 2))] #[.pointer (some ⟨ga, 0, none⟩), .pointer (some ⟨go, 0, none⟩), .pointer (some ⟨g13, 0, none⟩)] rfl rfl (by (try simp only [List.map_toArray, List.map_cons, List.map_nil]); first | done | rfl | (rw [← hk2]; rfl) | (rw [← hE2]; rfl) | (rw [← hE2, ← hki]; rfl)) ?_; refine (calls_of_args rfl (kr_put n nn m HN.out.2 HM.out (k) (k2) (wrap64 (t * kr.pw q 2)) (xn : Int) HAB_59.out ⟨Int.natCast_nonneg _, by have h_ := HXL.out.2; omega⟩ L HSQ.out D PM.out w.heap.size w.heap.size ga go g13 gL cL (fun k_ => ga < k_ ∧ k_ < go) _ RG.out.owns hzga_0 hzgo_0 hzg13_0 SL.out)).mono ?_; rintro e_ v8 ⟨rfl, hm_, gr, hk_, hb_, hgr⟩; refine ⟨_, rfl, ?_⟩; clear SL; have SL := Aside0.mk hm_; have n_ := Aside0.mk (pw_below_grown HB2.out (some gr) (below_size (by repeat (first | (with_reducible first | exact HB2.out | apply below_alloc | apply pw_below_drewN | apply below_drew1) | exact HB2.out))) hgr (fun k_ e_ => by cases e_; have h1_ := HNUM.out; have h2_ := HG12.out; have h3_ := HG13.out; have h4_ : ga < gr ∧ gr < go := hk_; omega)); clear HB2; have HB2 := n_; clear n_; have n_ := Aside0.mk (blk_grown PTA.out hgr (by intro e_; injection e_ with e_; have h1_ := HNUM.out; have h2_ := HG12.out; have h3_ := HG13.out; have h4_ : ga < gr ∧ gr < go := hk_; omega)); clear PTA; have PTA := n_; clear n_; have n_ := Aside0.mk (blk_grown PTO.out hgr (by intro e_; injection e_ with e_; have h1_ := HNUM.out; have h2_ := HG12.out; have h3_ := HG13.out; have h4_ : ga < gr ∧ gr < go := hk_; omega)); clear PTO; have PTO := n_; clear n_; have n_ := Aside0.mk (RG.out.kept hgr (by intro e_; injection e_ with e_; have h1_ := HNUM.out; have h2_ := HG12.out; have h3_ := HG13.out; have h4_ : ga < gr ∧ gr < go := hk_; omega) (by intro e_; injection e_ with e_; have h1_ := HNUM.out; have h2_ := HG12.out; have h3_ := HG13.out; have h4_ : ga < gr ∧ gr < go := hk_; omega)); clear RG; have RG := n_; clear n_; have n_ := Aside0.mk (blk_grown PTX.out hgr (by intro e_; injection e_ with e_; have h1_ := HNUM.out; have h2_ := HG12.out; have h3_ := HG13.out; have h4_ : ga < gr ∧ gr < go := hk_; omega)); clear PTX; have PTX := n_; clear n_; clear hm_ hk_ hb_ hgr; (try clear hzga_0 hfga_0); have hzga_0 := (blk_cell PTA.out 0).trans rfl; have hfga_0 := blk_frozen PTA.out 0; (try clear hzgo_0 hfgo_0); have hzgo_0 := (blk_cell PTO.out 0).trans rfl; have hfgo_0 := blk_frozen PTO.out 0; (try clear hzg13_0 hfg13_0); have hzg13_0 := (blk_cell PTX.out 0).trans rfl; have hfg13_0 := blk_frozen PTX.out 0))
          have HOPS : kr.ops k q t less i j = [(k, k2, wrap64 (t * kr.pw q 2))] := by
            rw [HK2.out] at c2 ⊢
            unfold kr.ops
            rw [if_pos ⟨c1, c2⟩]
          have n_ : Aside0 (Mx 2 22 v8 w.heap.size (fun k_ => ga < k_ ∧ k_ < go) (.slice (some ⟨gL, 0, none⟩) m cL) (L.set xn (kr.rowI n k q t (i, j)))) := ⟨by rw [← kr.ops_fin1 HXL.out.1 HROW.out HLESS.out HOPS]; exact SL.out⟩
          go_roundg k1_
          case measure => omega
          case rel => exact ⟨_, cnt1, L.set xn (kr.rowI n k q t (i, j)), ⟨by have h1_ := HC.out; have h2_ := HLT.out; omega⟩, RG, ⟨fun kl h_ => HL.out kl (by simp only [Bool.and_eq_true] at h_; exact h_.1)⟩, ⟨kr.RO.step kr_KOk kr_keyed HN.out.2 HRO.out xn (i, j) HPX.out⟩, ⟨(by (with_reducible repeat (first | apply Kd.S_alloc | apply Kd.S_drewN | apply Kd.S_drew)); exact n_.out)⟩, PTA, PTO, ⟨(by repeat (first | (with_reducible first | exact HB2.out | apply below_alloc | apply pw_below_drewN | apply below_drew1) | exact HB2.out))⟩⟩
        · have c3 : ¬ j = k := by have h_ := HIN.out; omega
          have HAB_120 : Aside0 (kr.inR n (k, k2)) := ⟨by unfold kr.inR; simp only; have h1_ := HIN.out; have h2_ := HK.out; have h3_ := HK2.out; omega⟩
          have HAB_126 : Aside0 (kr.inR n (k2, j)) := ⟨by unfold kr.inR; simp only; have h1_ := HIN.out; have h2_ := HK.out; have h3_ := HK2.out; omega⟩
          have c1_0 : decide (i = k) = true := decide_eq_true c1
          have c1_1 : (i == k) = true := by simp [c1]
          have c2_0 : decide (j = k2) = false := decide_eq_false c2
          have c2_1 : (j == k2) = false := by simp [c2]
          have c3_0 : decide (j = k) = false := decide_eq_false c3
          have c3_1 : (j == k) = false := by simp [c3]
          go_wp2_with (first | ((with_reducible refine gate_dst (N := 120) rfl ?_); refine goesF_ (some 120) rfl rfl Try.func52 (by kernel_rfl) rfl #[.int .i64 (k), .int .i64 (k2), .int .i64 (wrap64 (Int.tmod (wrap64 (t * q)) 10007 * less))] #[.pointer (some ⟨ga, 0, none⟩), .pointer (some ⟨go, 0, none⟩), .pointer (some ⟨g13, 0, none⟩)] rfl rfl (by (try simp only [List.map_toArray, List.map_cons, List.map_nil]); first | done | rfl | (rw [← hk2]; rfl) | (rw [← hE2]; rfl) | (rw [← hE2, ← hki]; rfl)) ?_; refine (calls_of_args rfl (kr_put n nn m HN.out.2 HM.out (k) (k2) (wrap64 (Int.tmod (wrap64 (t * q)) 10007 * less)) (xn : Int) HAB_120.out ⟨Int.natCast_nonneg _, by have h_ := HXL.out.2; omega⟩ L HSQ.out D PM.out w.heap.size w.heap.size ga go g13 gL cL (fun k_ => ga < k_ ∧ k_ < go) _ RG.out.owns hzga_0 hzgo_0 hzg13_0 SL.out)).mono ?_; rintro e_ v7 ⟨rfl, hm_, gr, hk_, hb_, hgr⟩; refine ⟨_, rfl, ?_⟩; clear SL; have SL := Aside0.mk hm_; have n_ := Aside0.mk (pw_below_grown HB2.out (some gr) (below_size (by repeat (first | (with_reducible first | exact HB2.out | apply below_alloc | apply pw_below_drewN | apply below_drew1) | exact HB2.out))) hgr (fun k_ e_ => by cases e_; have h1_ := HNUM.out; have h2_ := HG12.out; have h3_ := HG13.out; have h4_ : ga < gr ∧ gr < go := hk_; omega)); clear HB2; have HB2 := n_; clear n_; have n_ := Aside0.mk (blk_grown PTA.out hgr (by intro e_; injection e_ with e_; have h1_ := HNUM.out; have h2_ := HG12.out; have h3_ := HG13.out; have h4_ : ga < gr ∧ gr < go := hk_; omega)); clear PTA; have PTA := n_; clear n_; have n_ := Aside0.mk (blk_grown PTO.out hgr (by intro e_; injection e_ with e_; have h1_ := HNUM.out; have h2_ := HG12.out; have h3_ := HG13.out; have h4_ : ga < gr ∧ gr < go := hk_; omega)); clear PTO; have PTO := n_; clear n_; have n_ := Aside0.mk (RG.out.kept hgr (by intro e_; injection e_ with e_; have h1_ := HNUM.out; have h2_ := HG12.out; have h3_ := HG13.out; have h4_ : ga < gr ∧ gr < go := hk_; omega) (by intro e_; injection e_ with e_; have h1_ := HNUM.out; have h2_ := HG12.out; have h3_ := HG13.out; have h4_ : ga < gr ∧ gr < go := hk_; omega)); clear RG; have RG := n_; clear n_; have n_ := Aside0.mk (blk_grown PTX.out hgr (by intro e_; injection e_ with e_; have h1_ := HNUM.out; have h2_ := HG12.out; have h3_ := HG13.out; have h4_ : ga < gr ∧ gr < go := hk_; omega)); clear PTX; have PTX := n_; clear n_; clear hm_ hk_ hb_ hgr; (try clear hzga_0 hfga_0); have hzga_0 := (blk_cell PTA.out 0).trans rfl; have hfga_0 := blk_frozen PTA.out 0; (try clear hzgo_0 hfgo_0); have hzgo_0 := (blk_cell PTO.out 0).trans rfl; have hfgo_0 := blk_frozen PTO.out 0; (try clear hzg13_0 hfg13_0); have hzg13_0 := (blk_cell PTX.out 0).trans rfl; have hfg13_0 := blk_frozen PTX.out 0) | ((with_reducible refine gate_dst (N := 126) rfl ?_); refine goesF_ (some 126) rfl rfl Try.func52 (by kernel_rfl) rfl #[.int .i64 (k2), .int .i64 (j), .int .i64 (q)] #[.pointer (some ⟨ga, 0, none⟩), .pointer (some ⟨go, 0, none⟩), .pointer (some ⟨g13, 0, none⟩)] rfl rfl (by (try simp only [List.map_toArray, List.map_cons, List.map_nil]); first | done | rfl | (rw [← hk2]; rfl) | (rw [← hE2]; rfl) | (rw [← hE2, ← hki]; rfl)) ?_; refine (calls_of_args rfl (kr_put n nn m HN.out.2 HM.out (k2) (j) (q) (xn : Int) HAB_126.out ⟨Int.natCast_nonneg _, by have h_ := HXL.out.2; omega⟩ (kr.adM n L xn (k, k2, wrap64 (Int.tmod (wrap64 (t * q)) 10007 * less))) (kr.adM_Sq HSQ.out xn (k, k2, wrap64 (Int.tmod (wrap64 (t * q)) 10007 * less)) (Int.natCast_nonneg _) (by have h_ := HXL.out.2; omega)) D PM.out w.heap.size w.heap.size ga go g13 gL cL (fun k_ => ga < k_ ∧ k_ < go) _ RG.out.owns hzga_0 hzgo_0 hzg13_0 SL.out)).mono ?_; rintro e_ v8 ⟨rfl, hm_, gr, hk_, hb_, hgr⟩; refine ⟨_, rfl, ?_⟩; clear SL; have SL := Aside0.mk hm_; have n_ := Aside0.mk (pw_below_grown HB2.out (some gr) (below_size (by repeat (first | (with_reducible first | exact HB2.out | apply below_alloc | apply pw_below_drewN | apply below_drew1) | exact HB2.out))) hgr (fun k_ e_ => by cases e_; have h1_ := HNUM.out; have h2_ := HG12.out; have h3_ := HG13.out; have h4_ : ga < gr ∧ gr < go := hk_; omega)); clear HB2; have HB2 := n_; clear n_; have n_ := Aside0.mk (blk_grown PTA.out hgr (by intro e_; injection e_ with e_; have h1_ := HNUM.out; have h2_ := HG12.out; have h3_ := HG13.out; have h4_ : ga < gr ∧ gr < go := hk_; omega)); clear PTA; have PTA := n_; clear n_; have n_ := Aside0.mk (blk_grown PTO.out hgr (by intro e_; injection e_ with e_; have h1_ := HNUM.out; have h2_ := HG12.out; have h3_ := HG13.out; have h4_ : ga < gr ∧ gr < go := hk_; omega)); clear PTO; have PTO := n_; clear n_; have n_ := Aside0.mk (RG.out.kept hgr (by intro e_; injection e_ with e_; have h1_ := HNUM.out; have h2_ := HG12.out; have h3_ := HG13.out; have h4_ : ga < gr ∧ gr < go := hk_; omega) (by intro e_; injection e_ with e_; have h1_ := HNUM.out; have h2_ := HG12.out; have h3_ := HG13.out; have h4_ : ga < gr ∧ gr < go := hk_; omega)); clear RG; have RG := n_; clear n_; have n_ := Aside0.mk (blk_grown PTX.out hgr (by intro e_; injection e_ with e_; have h1_ := HNUM.out; have h2_ := HG12.out; have h3_ := HG13.out; have h4_ : ga < gr ∧ gr < go := hk_; omega)); clear PTX; have PTX := n_; clear n_; clear hm_ hk_ hb_ hgr; (try clear hzga_0 hfga_0); have hzga_0 := (blk_cell PTA.out 0).trans rfl; have hfga_0 := blk_frozen PTA.out 0; (try clear hzgo_0 hfgo_0); have hzgo_0 := (blk_cell PTO.out 0).trans rfl; have hfgo_0 := blk_frozen PTO.out 0; (try clear hzg13_0 hfg13_0); have hzg13_0 := (blk_cell PTX.out 0).trans rfl; have hfg13_0 := blk_frozen PTX.out 0))
          have HOPS : kr.ops k q t less i j = [(k, k2, wrap64 (Int.tmod (wrap64 (t * q)) 10007 * less)), (k2, j, q)] := by
            rw [HK2.out] at c2 ⊢
            unfold kr.ops
            rw [if_neg (fun h => c2 h.2), if_neg c3, if_neg (fun h => c2 h.1), if_pos c1]
          have n_ : Aside0 (Mx 2 22 v8 w.heap.size (fun k_ => ga < k_ ∧ k_ < go) (.slice (some ⟨gL, 0, none⟩) m cL) (L.set xn (kr.rowI n k q t (i, j)))) := ⟨by rw [← kr.ops_fin2 HXL.out.1 HROW.out HLESS.out HOPS]; exact SL.out⟩
          go_roundg k1_
          case measure => omega
          case rel => exact ⟨_, cnt1, L.set xn (kr.rowI n k q t (i, j)), ⟨by have h1_ := HC.out; have h2_ := HLT.out; omega⟩, RG, ⟨fun kl h_ => HL.out kl (by simp only [Bool.and_eq_true] at h_; exact h_.1)⟩, ⟨kr.RO.step kr_KOk kr_keyed HN.out.2 HRO.out xn (i, j) HPX.out⟩, ⟨(by (with_reducible repeat (first | apply Kd.S_alloc | apply Kd.S_drewN | apply Kd.S_drew)); exact n_.out)⟩, PTA, PTO, ⟨(by repeat (first | (with_reducible first | exact HB2.out | apply below_alloc | apply pw_below_drewN | apply below_drew1) | exact HB2.out))⟩⟩
      · by_cases c3 : j = k
        · skip
          have HAB_69 : Aside0 (kr.inR n (i, k)) := ⟨by unfold kr.inR; simp only; have h1_ := HIN.out; have h2_ := HK.out; have h3_ := HK2.out; omega⟩
          have HAB_75 : Aside0 (kr.inR n (i, k2)) := ⟨by unfold kr.inR; simp only; have h1_ := HIN.out; have h2_ := HK.out; have h3_ := HK2.out; omega⟩
          have c1_0 : decide (i = k) = false := decide_eq_false c1
          have c1_1 : (i == k) = false := by simp [c1]
          have c3_0 : decide (j = k) = true := decide_eq_true c3
          have c3_1 : (j == k) = true := by simp [c3]
          go_wp2_with (first | ((with_reducible refine gate_dst (N := 69) rfl ?_); refine goesF_ (some 69) rfl rfl Try.func52 (by kernel_rfl) rfl #[.int .i64 (i), .int .i64 (k), .int .i64 (wrap64 (1 - q))] #[.pointer (some ⟨ga, 0, none⟩), .pointer (some ⟨go, 0, none⟩), .pointer (some ⟨g13, 0, none⟩)] rfl rfl (by (try simp only [List.map_toArray, List.map_cons, List.map_nil]); first | done | rfl | (rw [← hk2]; rfl) | (rw [← hE2]; rfl) | (rw [← hE2, ← hki]; rfl)) ?_; refine (calls_of_args rfl (kr_put n nn m HN.out.2 HM.out (i) (k) (wrap64 (1 - q)) (xn : Int) HAB_69.out ⟨Int.natCast_nonneg _, by have h_ := HXL.out.2; omega⟩ L HSQ.out D PM.out w.heap.size w.heap.size ga go g13 gL cL (fun k_ => ga < k_ ∧ k_ < go) _ RG.out.owns hzga_0 hzgo_0 hzg13_0 SL.out)).mono ?_; rintro e_ v7 ⟨rfl, hm_, gr, hk_, hb_, hgr⟩; refine ⟨_, rfl, ?_⟩; clear SL; have SL := Aside0.mk hm_; have n_ := Aside0.mk (pw_below_grown HB2.out (some gr) (below_size (by repeat (first | (with_reducible first | exact HB2.out | apply below_alloc | apply pw_below_drewN | apply below_drew1) | exact HB2.out))) hgr (fun k_ e_ => by cases e_; have h1_ := HNUM.out; have h2_ := HG12.out; have h3_ := HG13.out; have h4_ : ga < gr ∧ gr < go := hk_; omega)); clear HB2; have HB2 := n_; clear n_; have n_ := Aside0.mk (blk_grown PTA.out hgr (by intro e_; injection e_ with e_; have h1_ := HNUM.out; have h2_ := HG12.out; have h3_ := HG13.out; have h4_ : ga < gr ∧ gr < go := hk_; omega)); clear PTA; have PTA := n_; clear n_; have n_ := Aside0.mk (blk_grown PTO.out hgr (by intro e_; injection e_ with e_; have h1_ := HNUM.out; have h2_ := HG12.out; have h3_ := HG13.out; have h4_ : ga < gr ∧ gr < go := hk_; omega)); clear PTO; have PTO := n_; clear n_; have n_ := Aside0.mk (RG.out.kept hgr (by intro e_; injection e_ with e_; have h1_ := HNUM.out; have h2_ := HG12.out; have h3_ := HG13.out; have h4_ : ga < gr ∧ gr < go := hk_; omega) (by intro e_; injection e_ with e_; have h1_ := HNUM.out; have h2_ := HG12.out; have h3_ := HG13.out; have h4_ : ga < gr ∧ gr < go := hk_; omega)); clear RG; have RG := n_; clear n_; have n_ := Aside0.mk (blk_grown PTX.out hgr (by intro e_; injection e_ with e_; have h1_ := HNUM.out; have h2_ := HG12.out; have h3_ := HG13.out; have h4_ : ga < gr ∧ gr < go := hk_; omega)); clear PTX; have PTX := n_; clear n_; clear hm_ hk_ hb_ hgr; (try clear hzga_0 hfga_0); have hzga_0 := (blk_cell PTA.out 0).trans rfl; have hfga_0 := blk_frozen PTA.out 0; (try clear hzgo_0 hfgo_0); have hzgo_0 := (blk_cell PTO.out 0).trans rfl; have hfgo_0 := blk_frozen PTO.out 0; (try clear hzg13_0 hfg13_0); have hzg13_0 := (blk_cell PTX.out 0).trans rfl; have hfg13_0 := blk_frozen PTX.out 0) | ((with_reducible refine gate_dst (N := 75) rfl ?_); refine goesF_ (some 75) rfl rfl Try.func52 (by kernel_rfl) rfl #[.int .i64 (i), .int .i64 (k2), .int .i64 (q)] #[.pointer (some ⟨ga, 0, none⟩), .pointer (some ⟨go, 0, none⟩), .pointer (some ⟨g13, 0, none⟩)] rfl rfl (by (try simp only [List.map_toArray, List.map_cons, List.map_nil]); first | done | rfl | (rw [← hk2]; rfl) | (rw [← hE2]; rfl) | (rw [← hE2, ← hki]; rfl)) ?_; refine (calls_of_args rfl (kr_put n nn m HN.out.2 HM.out (i) (k2) (q) (xn : Int) HAB_75.out ⟨Int.natCast_nonneg _, by have h_ := HXL.out.2; omega⟩ (kr.adM n L xn (i, k, wrap64 (1 - q))) (kr.adM_Sq HSQ.out xn (i, k, wrap64 (1 - q)) (Int.natCast_nonneg _) (by have h_ := HXL.out.2; omega)) D PM.out w.heap.size w.heap.size ga go g13 gL cL (fun k_ => ga < k_ ∧ k_ < go) _ RG.out.owns hzga_0 hzgo_0 hzg13_0 SL.out)).mono ?_; rintro e_ v8 ⟨rfl, hm_, gr, hk_, hb_, hgr⟩; refine ⟨_, rfl, ?_⟩; clear SL; have SL := Aside0.mk hm_; have n_ := Aside0.mk (pw_below_grown HB2.out (some gr) (below_size (by repeat (first | (with_reducible first | exact HB2.out | apply below_alloc | apply pw_below_drewN | apply below_drew1) | exact HB2.out))) hgr (fun k_ e_ => by cases e_; have h1_ := HNUM.out; have h2_ := HG12.out; have h3_ := HG13.out; have h4_ : ga < gr ∧ gr < go := hk_; omega)); clear HB2; have HB2 := n_; clear n_; have n_ := Aside0.mk (blk_grown PTA.out hgr (by intro e_; injection e_ with e_; have h1_ := HNUM.out; have h2_ := HG12.out; have h3_ := HG13.out; have h4_ : ga < gr ∧ gr < go := hk_; omega)); clear PTA; have PTA := n_; clear n_; have n_ := Aside0.mk (blk_grown PTO.out hgr (by intro e_; injection e_ with e_; have h1_ := HNUM.out; have h2_ := HG12.out; have h3_ := HG13.out; have h4_ : ga < gr ∧ gr < go := hk_; omega)); clear PTO; have PTO := n_; clear n_; have n_ := Aside0.mk (RG.out.kept hgr (by intro e_; injection e_ with e_; have h1_ := HNUM.out; have h2_ := HG12.out; have h3_ := HG13.out; have h4_ : ga < gr ∧ gr < go := hk_; omega) (by intro e_; injection e_ with e_; have h1_ := HNUM.out; have h2_ := HG12.out; have h3_ := HG13.out; have h4_ : ga < gr ∧ gr < go := hk_; omega)); clear RG; have RG := n_; clear n_; have n_ := Aside0.mk (blk_grown PTX.out hgr (by intro e_; injection e_ with e_; have h1_ := HNUM.out; have h2_ := HG12.out; have h3_ := HG13.out; have h4_ : ga < gr ∧ gr < go := hk_; omega)); clear PTX; have PTX := n_; clear n_; clear hm_ hk_ hb_ hgr; (try clear hzga_0 hfga_0); have hzga_0 := (blk_cell PTA.out 0).trans rfl; have hfga_0 := blk_frozen PTA.out 0; (try clear hzgo_0 hfgo_0); have hzgo_0 := (blk_cell PTO.out 0).trans rfl; have hfgo_0 := blk_frozen PTO.out 0; (try clear hzg13_0 hfg13_0); have hzg13_0 := (blk_cell PTX.out 0).trans rfl; have hfg13_0 := blk_frozen PTX.out 0))
          have HOPS : kr.ops k q t less i j = [(i, k, wrap64 (1 - q)), (i, k2, q)] := by
            rw [HK2.out]
            unfold kr.ops
            rw [if_neg (fun h => c1 h.1), if_pos c3]
          have n_ : Aside0 (Mx 2 22 v8 w.heap.size (fun k_ => ga < k_ ∧ k_ < go) (.slice (some ⟨gL, 0, none⟩) m cL) (L.set xn (kr.rowI n k q t (i, j)))) := ⟨by rw [← kr.ops_fin2 HXL.out.1 HROW.out HLESS.out HOPS]; exact SL.out⟩
          go_roundg k1_
          case measure => omega
          case rel => exact ⟨_, cnt1, L.set xn (kr.rowI n k q t (i, j)), ⟨by have h1_ := HC.out; have h2_ := HLT.out; omega⟩, RG, ⟨fun kl h_ => HL.out kl (by simp only [Bool.and_eq_true] at h_; exact h_.1)⟩, ⟨kr.RO.step kr_KOk kr_keyed HN.out.2 HRO.out xn (i, j) HPX.out⟩, ⟨(by (with_reducible repeat (first | apply Kd.S_alloc | apply Kd.S_drewN | apply Kd.S_drew)); exact n_.out)⟩, PTA, PTO, ⟨(by repeat (first | (with_reducible first | exact HB2.out | apply below_alloc | apply pw_below_drewN | apply below_drew1) | exact HB2.out))⟩⟩
        · by_cases c2 : j = k2
          · have c4 : i < k := by have h_ := HIN.out; have h2_ := HK2.out; omega
            obtain ⟨e, he⟩ : ∃ e : Nat, (k - i + 1).toNat = e := ⟨_, rfl⟩
            have HE := Aside0.mk he
            have HE100 : Aside0 (e ≤ 100) := ⟨by rw [← he]; have h1_ := HIN.out; have h2_ := HK.out; have h3_ := HN.out; omega⟩
            obtain ⟨ki, hki⟩ : ∃ x, wrap64 (k - i) = x := ⟨_, rfl⟩
            have hE2 : wrap64 (ki + 1) = (e : Int) := by rw [← hki, ← he]; have h1_ := HIN.out; have h2_ := HK.out; have h3_ := HN.out; unfold wrap64; omega
            clear he
            have HAB_89 : Aside0 (kr.inR n (i, k)) := ⟨by unfold kr.inR; simp only; have h1_ := HIN.out; have h2_ := HK.out; have h3_ := HK2.out; omega⟩
            have HAB_105 : Aside0 (kr.inR n (k, k2)) := ⟨by unfold kr.inR; simp only; have h1_ := HIN.out; have h2_ := HK.out; have h3_ := HK2.out; omega⟩
            have c1_0 : decide (i = k) = false := decide_eq_false c1
            have c1_1 : (i == k) = false := by simp [c1]
            have c3_0 : decide (j = k) = false := decide_eq_false c3
            have c3_1 : (j == k) = false := by simp [c3]
            have c2_0 : decide (j = k2) = true := decide_eq_true c2
            have c2_1 : (j == k2) = true := by simp [c2]
            have c4_0 : decide (i < k) = true := decide_eq_true c4
            have c4_g : decide (k > i) = true := c4_0
            go_wp2_with (first | ((with_reducible refine gate_dst (N := 89) rfl ?_); refine goesF_ (some 89) rfl rfl Try.func52 (by kernel_rfl) rfl #[.int .i64 (i), .int .i64 (k), .int .i64 (1)] #[.pointer (some ⟨ga, 0, none⟩), .pointer (some ⟨go, 0, none⟩), .pointer (some ⟨g13, 0, none⟩)] rfl rfl (by (try simp only [List.map_toArray, List.map_cons, List.map_nil]); first | done | rfl | (rw [← hk2]; rfl) | (rw [← hE2]; rfl) | (rw [← hE2, ← hki]; rfl)) ?_; refine (calls_of_args rfl (kr_put n nn m HN.out.2 HM.out (i) (k) (1) (xn : Int) HAB_89.out ⟨Int.natCast_nonneg _, by have h_ := HXL.out.2; omega⟩ L HSQ.out D PM.out w.heap.size w.heap.size ga go g13 gL cL (fun k_ => ga < k_ ∧ k_ < go) _ RG.out.owns hzga_0 hzgo_0 hzg13_0 SL.out)).mono ?_; rintro e_ v7 ⟨rfl, hm_, gr, hk_, hb_, hgr⟩; refine ⟨_, rfl, ?_⟩; clear SL; have SL := Aside0.mk hm_; have n_ := Aside0.mk (pw_below_grown HB2.out (some gr) (below_size (by repeat (first | (with_reducible first | exact HB2.out | apply below_alloc | apply pw_below_drewN | apply below_drew1) | exact HB2.out))) hgr (fun k_ e_ => by cases e_; have h1_ := HNUM.out; have h2_ := HG12.out; have h3_ := HG13.out; have h4_ : ga < gr ∧ gr < go := hk_; omega)); clear HB2; have HB2 := n_; clear n_; have n_ := Aside0.mk (blk_grown PTA.out hgr (by intro e_; injection e_ with e_; have h1_ := HNUM.out; have h2_ := HG12.out; have h3_ := HG13.out; have h4_ : ga < gr ∧ gr < go := hk_; omega)); clear PTA; have PTA := n_; clear n_; have n_ := Aside0.mk (blk_grown PTO.out hgr (by intro e_; injection e_ with e_; have h1_ := HNUM.out; have h2_ := HG12.out; have h3_ := HG13.out; have h4_ : ga < gr ∧ gr < go := hk_; omega)); clear PTO; have PTO := n_; clear n_; have n_ := Aside0.mk (RG.out.kept hgr (by intro e_; injection e_ with e_; have h1_ := HNUM.out; have h2_ := HG12.out; have h3_ := HG13.out; have h4_ : ga < gr ∧ gr < go := hk_; omega) (by intro e_; injection e_ with e_; have h1_ := HNUM.out; have h2_ := HG12.out; have h3_ := HG13.out; have h4_ : ga < gr ∧ gr < go := hk_; omega)); clear RG; have RG := n_; clear n_; have n_ := Aside0.mk (blk_grown PTX.out hgr (by intro e_; injection e_ with e_; have h1_ := HNUM.out; have h2_ := HG12.out; have h3_ := HG13.out; have h4_ : ga < gr ∧ gr < go := hk_; omega)); clear PTX; have PTX := n_; clear n_; clear hm_ hk_ hb_ hgr; (try clear hzga_0 hfga_0); have hzga_0 := (blk_cell PTA.out 0).trans rfl; have hfga_0 := blk_frozen PTA.out 0; (try clear hzgo_0 hfgo_0); have hzgo_0 := (blk_cell PTO.out 0).trans rfl; have hfgo_0 := blk_frozen PTO.out 0; (try clear hzg13_0 hfg13_0); have hzg13_0 := (blk_cell PTX.out 0).trans rfl; have hfg13_0 := blk_frozen PTX.out 0) | ((with_reducible refine gate_callee (f := 53) rfl ?_); refine goesL_ (some 100) rfl rfl Try.func53 (by kernel_rfl) rfl #[.int .i64 q, .int .i64 ((e : Nat) : Int)] rfl (by (try simp only [List.map_toArray, List.map_cons, List.map_nil]); first | done | rfl | (rw [← hk2]; rfl) | (rw [← hE2]; rfl) | (rw [← hE2, ← hki]; rfl)) ?_; refine (kr_pow q e HE100.out _).mono ?_; rintro e_ v8 ⟨rfl, hb⟩; refine ⟨_, rfl, ?_⟩; have n_ := Aside0.mk (below_step (by repeat (first | (with_reducible first | exact HB2.out | apply below_alloc | apply pw_below_drewN | apply below_drew1) | exact HB2.out)) hb); clear HB2; have HB2 := n_; clear n_; have n_ := Aside0.mk (blk_below PTA.out hb); clear PTA; have PTA := n_; clear n_; have n_ := Aside0.mk (blk_below PTO.out hb); clear PTO; have PTO := n_; clear n_; have n_ := Aside0.mk (RG.out.kept (grown_of_below hb none) (by simp) (by simp)); clear RG; have RG := n_; clear n_; have n_ := Aside0.mk (blk_below PTX.out hb); clear PTX; have PTX := n_; clear n_; have n_ := Aside0.mk (Kd.S_below SL.out hb); clear SL; have SL := n_; clear n_; clear hb; (try clear hzga_0 hfga_0); have hzga_0 := (blk_cell PTA.out 0).trans rfl; have hfga_0 := blk_frozen PTA.out 0; (try clear hzgo_0 hfgo_0); have hzgo_0 := (blk_cell PTO.out 0).trans rfl; have hfgo_0 := blk_frozen PTO.out 0; (try clear hzg13_0 hfg13_0); have hzg13_0 := (blk_cell PTX.out 0).trans rfl; have hfg13_0 := blk_frozen PTX.out 0) | ((with_reducible refine gate_dst (N := 105) rfl ?_); refine goesF_ (some 105) rfl rfl Try.func52 (by kernel_rfl) rfl #[.int .i64 (k), .int .i64 (k2), .int .i64 (wrap64 (Int.tmod (wrap64 (t * kr.pw q e)) 10007 * less))] #[.pointer (some ⟨ga, 0, none⟩), .pointer (some ⟨go, 0, none⟩), .pointer (some ⟨g13, 0, none⟩)] rfl rfl (by (try simp only [List.map_toArray, List.map_cons, List.map_nil]); first | done | rfl | (rw [← hk2]; rfl) | (rw [← hE2]; rfl) | (rw [← hE2, ← hki]; rfl)) ?_; refine (calls_of_args rfl (kr_put n nn m HN.out.2 HM.out (k) (k2) (wrap64 (Int.tmod (wrap64 (t * kr.pw q e)) 10007 * less)) (xn : Int) HAB_105.out ⟨Int.natCast_nonneg _, by have h_ := HXL.out.2; omega⟩ (kr.adM n L xn (i, k, 1)) (kr.adM_Sq HSQ.out xn (i, k, 1) (Int.natCast_nonneg _) (by have h_ := HXL.out.2; omega)) D PM.out w.heap.size w.heap.size ga go g13 gL cL (fun k_ => ga < k_ ∧ k_ < go) _ RG.out.owns hzga_0 hzgo_0 hzg13_0 SL.out)).mono ?_; rintro e_ v9 ⟨rfl, hm_, gr, hk_, hb_, hgr⟩; refine ⟨_, rfl, ?_⟩; clear SL; have SL := Aside0.mk hm_; have n_ := Aside0.mk (pw_below_grown HB2.out (some gr) (below_size (by repeat (first | (with_reducible first | exact HB2.out | apply below_alloc | apply pw_below_drewN | apply below_drew1) | exact HB2.out))) hgr (fun k_ e_ => by cases e_; have h1_ := HNUM.out; have h2_ := HG12.out; have h3_ := HG13.out; have h4_ : ga < gr ∧ gr < go := hk_; omega)); clear HB2; have HB2 := n_; clear n_; have n_ := Aside0.mk (blk_grown PTA.out hgr (by intro e_; injection e_ with e_; have h1_ := HNUM.out; have h2_ := HG12.out; have h3_ := HG13.out; have h4_ : ga < gr ∧ gr < go := hk_; omega)); clear PTA; have PTA := n_; clear n_; have n_ := Aside0.mk (blk_grown PTO.out hgr (by intro e_; injection e_ with e_; have h1_ := HNUM.out; have h2_ := HG12.out; have h3_ := HG13.out; have h4_ : ga < gr ∧ gr < go := hk_; omega)); clear PTO; have PTO := n_; clear n_; have n_ := Aside0.mk (RG.out.kept hgr (by intro e_; injection e_ with e_; have h1_ := HNUM.out; have h2_ := HG12.out; have h3_ := HG13.out; have h4_ : ga < gr ∧ gr < go := hk_; omega) (by intro e_; injection e_ with e_; have h1_ := HNUM.out; have h2_ := HG12.out; have h3_ := HG13.out; have h4_ : ga < gr ∧ gr < go := hk_; omega)); clear RG; have RG := n_; clear n_; have n_ := Aside0.mk (blk_grown PTX.out hgr (by intro e_; injection e_ with e_; have h1_ := HNUM.out; have h2_ := HG12.out; have h3_ := HG13.out; have h4_ : ga < gr ∧ gr < go := hk_; omega)); clear PTX; have PTX := n_; clear n_; clear hm_ hk_ hb_ hgr; (try clear hzga_0 hfga_0); have hzga_0 := (blk_cell PTA.out 0).trans rfl; have hfga_0 := blk_frozen PTA.out 0; (try clear hzgo_0 hfgo_0); have hzgo_0 := (blk_cell PTO.out 0).trans rfl; have hfgo_0 := blk_frozen PTO.out 0; (try clear hzg13_0 hfg13_0); have hzg13_0 := (blk_cell PTX.out 0).trans rfl; have hfg13_0 := blk_frozen PTX.out 0))
            have HOPS : kr.ops k q t less i j = [(i, k, 1), (k, k2, wrap64 (Int.tmod (wrap64 (t * kr.pw q e)) 10007 * less))] := by
              rw [HK2.out] at c2 ⊢
              unfold kr.ops
              rw [if_neg (fun h => c1 h.1), if_neg c3, if_pos ⟨c2, c4⟩, HE.out]
            have n_ : Aside0 (Mx 2 22 v9 w.heap.size (fun k_ => ga < k_ ∧ k_ < go) (.slice (some ⟨gL, 0, none⟩) m cL) (L.set xn (kr.rowI n k q t (i, j)))) := ⟨by rw [← kr.ops_fin2 HXL.out.1 HROW.out HLESS.out HOPS]; exact SL.out⟩
            go_roundg k1_
            case measure => omega
            case rel => exact ⟨_, cnt1, L.set xn (kr.rowI n k q t (i, j)), ⟨by have h1_ := HC.out; have h2_ := HLT.out; omega⟩, RG, ⟨fun kl h_ => HL.out kl (by simp only [Bool.and_eq_true] at h_; exact h_.1)⟩, ⟨kr.RO.step kr_KOk kr_keyed HN.out.2 HRO.out xn (i, j) HPX.out⟩, ⟨(by (with_reducible repeat (first | apply Kd.S_alloc | apply Kd.S_drewN | apply Kd.S_drew)); exact n_.out)⟩, PTA, PTO, ⟨(by repeat (first | (with_reducible first | exact HB2.out | apply below_alloc | apply pw_below_drewN | apply below_drew1) | exact HB2.out))⟩⟩
          · by_cases c5 : i = k2
            · skip
              have HAB_135 : Aside0 (kr.inR n (k, j)) := ⟨by unfold kr.inR; simp only; have h1_ := HIN.out; have h2_ := HK.out; have h3_ := HK2.out; omega⟩
              have HAB_142 : Aside0 (kr.inR n (k2, j)) := ⟨by unfold kr.inR; simp only; have h1_ := HIN.out; have h2_ := HK.out; have h3_ := HK2.out; omega⟩
              have c1_0 : decide (i = k) = false := decide_eq_false c1
              have c1_1 : (i == k) = false := by simp [c1]
              have c3_0 : decide (j = k) = false := decide_eq_false c3
              have c3_1 : (j == k) = false := by simp [c3]
              have c2_0 : decide (j = k2) = false := decide_eq_false c2
              have c2_1 : (j == k2) = false := by simp [c2]
              have c5_0 : decide (i = k2) = true := decide_eq_true c5
              have c5_1 : (i == k2) = true := by simp [c5]
              go_wp2_with (first | ((with_reducible refine gate_dst (N := 135) rfl ?_); refine goesF_ (some 135) rfl rfl Try.func52 (by kernel_rfl) rfl #[.int .i64 (k), .int .i64 (j), .int .i64 (1)] #[.pointer (some ⟨ga, 0, none⟩), .pointer (some ⟨go, 0, none⟩), .pointer (some ⟨g13, 0, none⟩)] rfl rfl (by (try simp only [List.map_toArray, List.map_cons, List.map_nil]); first | done | rfl | (rw [← hk2]; rfl) | (rw [← hE2]; rfl) | (rw [← hE2, ← hki]; rfl)) ?_; refine (calls_of_args rfl (kr_put n nn m HN.out.2 HM.out (k) (j) (1) (xn : Int) HAB_135.out ⟨Int.natCast_nonneg _, by have h_ := HXL.out.2; omega⟩ L HSQ.out D PM.out w.heap.size w.heap.size ga go g13 gL cL (fun k_ => ga < k_ ∧ k_ < go) _ RG.out.owns hzga_0 hzgo_0 hzg13_0 SL.out)).mono ?_; rintro e_ v7 ⟨rfl, hm_, gr, hk_, hb_, hgr⟩; refine ⟨_, rfl, ?_⟩; clear SL; have SL := Aside0.mk hm_; have n_ := Aside0.mk (pw_below_grown HB2.out (some gr) (below_size (by repeat (first | (with_reducible first | exact HB2.out | apply below_alloc | apply pw_below_drewN | apply below_drew1) | exact HB2.out))) hgr (fun k_ e_ => by cases e_; have h1_ := HNUM.out; have h2_ := HG12.out; have h3_ := HG13.out; have h4_ : ga < gr ∧ gr < go := hk_; omega)); clear HB2; have HB2 := n_; clear n_; have n_ := Aside0.mk (blk_grown PTA.out hgr (by intro e_; injection e_ with e_; have h1_ := HNUM.out; have h2_ := HG12.out; have h3_ := HG13.out; have h4_ : ga < gr ∧ gr < go := hk_; omega)); clear PTA; have PTA := n_; clear n_; have n_ := Aside0.mk (blk_grown PTO.out hgr (by intro e_; injection e_ with e_; have h1_ := HNUM.out; have h2_ := HG12.out; have h3_ := HG13.out; have h4_ : ga < gr ∧ gr < go := hk_; omega)); clear PTO; have PTO := n_; clear n_; have n_ := Aside0.mk (RG.out.kept hgr (by intro e_; injection e_ with e_; have h1_ := HNUM.out; have h2_ := HG12.out; have h3_ := HG13.out; have h4_ : ga < gr ∧ gr < go := hk_; omega) (by intro e_; injection e_ with e_; have h1_ := HNUM.out; have h2_ := HG12.out; have h3_ := HG13.out; have h4_ : ga < gr ∧ gr < go := hk_; omega)); clear RG; have RG := n_; clear n_; have n_ := Aside0.mk (blk_grown PTX.out hgr (by intro e_; injection e_ with e_; have h1_ := HNUM.out; have h2_ := HG12.out; have h3_ := HG13.out; have h4_ : ga < gr ∧ gr < go := hk_; omega)); clear PTX; have PTX := n_; clear n_; clear hm_ hk_ hb_ hgr; (try clear hzga_0 hfga_0); have hzga_0 := (blk_cell PTA.out 0).trans rfl; have hfga_0 := blk_frozen PTA.out 0; (try clear hzgo_0 hfgo_0); have hzgo_0 := (blk_cell PTO.out 0).trans rfl; have hfgo_0 := blk_frozen PTO.out 0; (try clear hzg13_0 hfg13_0); have hzg13_0 := (blk_cell PTX.out 0).trans rfl; have hfg13_0 := blk_frozen PTX.out 0) | ((with_reducible refine gate_dst (N := 142) rfl ?_); refine goesF_ (some 142) rfl rfl Try.func52 (by kernel_rfl) rfl #[.int .i64 (k2), .int .i64 (j), .int .i64 (wrap64 (1 - q))] #[.pointer (some ⟨ga, 0, none⟩), .pointer (some ⟨go, 0, none⟩), .pointer (some ⟨g13, 0, none⟩)] rfl rfl (by (try simp only [List.map_toArray, List.map_cons, List.map_nil]); first | done | rfl | (rw [← hk2]; rfl) | (rw [← hE2]; rfl) | (rw [← hE2, ← hki]; rfl)) ?_; refine (calls_of_args rfl (kr_put n nn m HN.out.2 HM.out (k2) (j) (wrap64 (1 - q)) (xn : Int) HAB_142.out ⟨Int.natCast_nonneg _, by have h_ := HXL.out.2; omega⟩ (kr.adM n L xn (k, j, 1)) (kr.adM_Sq HSQ.out xn (k, j, 1) (Int.natCast_nonneg _) (by have h_ := HXL.out.2; omega)) D PM.out w.heap.size w.heap.size ga go g13 gL cL (fun k_ => ga < k_ ∧ k_ < go) _ RG.out.owns hzga_0 hzgo_0 hzg13_0 SL.out)).mono ?_; rintro e_ v8 ⟨rfl, hm_, gr, hk_, hb_, hgr⟩; refine ⟨_, rfl, ?_⟩; clear SL; have SL := Aside0.mk hm_; have n_ := Aside0.mk (pw_below_grown HB2.out (some gr) (below_size (by repeat (first | (with_reducible first | exact HB2.out | apply below_alloc | apply pw_below_drewN | apply below_drew1) | exact HB2.out))) hgr (fun k_ e_ => by cases e_; have h1_ := HNUM.out; have h2_ := HG12.out; have h3_ := HG13.out; have h4_ : ga < gr ∧ gr < go := hk_; omega)); clear HB2; have HB2 := n_; clear n_; have n_ := Aside0.mk (blk_grown PTA.out hgr (by intro e_; injection e_ with e_; have h1_ := HNUM.out; have h2_ := HG12.out; have h3_ := HG13.out; have h4_ : ga < gr ∧ gr < go := hk_; omega)); clear PTA; have PTA := n_; clear n_; have n_ := Aside0.mk (blk_grown PTO.out hgr (by intro e_; injection e_ with e_; have h1_ := HNUM.out; have h2_ := HG12.out; have h3_ := HG13.out; have h4_ : ga < gr ∧ gr < go := hk_; omega)); clear PTO; have PTO := n_; clear n_; have n_ := Aside0.mk (RG.out.kept hgr (by intro e_; injection e_ with e_; have h1_ := HNUM.out; have h2_ := HG12.out; have h3_ := HG13.out; have h4_ : ga < gr ∧ gr < go := hk_; omega) (by intro e_; injection e_ with e_; have h1_ := HNUM.out; have h2_ := HG12.out; have h3_ := HG13.out; have h4_ : ga < gr ∧ gr < go := hk_; omega)); clear RG; have RG := n_; clear n_; have n_ := Aside0.mk (blk_grown PTX.out hgr (by intro e_; injection e_ with e_; have h1_ := HNUM.out; have h2_ := HG12.out; have h3_ := HG13.out; have h4_ : ga < gr ∧ gr < go := hk_; omega)); clear PTX; have PTX := n_; clear n_; clear hm_ hk_ hb_ hgr; (try clear hzga_0 hfga_0); have hzga_0 := (blk_cell PTA.out 0).trans rfl; have hfga_0 := blk_frozen PTA.out 0; (try clear hzgo_0 hfgo_0); have hzgo_0 := (blk_cell PTO.out 0).trans rfl; have hfgo_0 := blk_frozen PTO.out 0; (try clear hzg13_0 hfg13_0); have hzg13_0 := (blk_cell PTX.out 0).trans rfl; have hfg13_0 := blk_frozen PTX.out 0))
              have HOPS : kr.ops k q t less i j = [(k, j, 1), (k2, j, wrap64 (1 - q))] := by
                rw [HK2.out] at c2 c5 ⊢
                unfold kr.ops
                rw [if_neg (fun h => c1 h.1), if_neg c3, if_neg (fun h => c2 h.1), if_neg c1, if_pos c5]
              have n_ : Aside0 (Mx 2 22 v8 w.heap.size (fun k_ => ga < k_ ∧ k_ < go) (.slice (some ⟨gL, 0, none⟩) m cL) (L.set xn (kr.rowI n k q t (i, j)))) := ⟨by rw [← kr.ops_fin2 HXL.out.1 HROW.out HLESS.out HOPS]; exact SL.out⟩
              go_roundg k1_
              case measure => omega
              case rel => exact ⟨_, cnt1, L.set xn (kr.rowI n k q t (i, j)), ⟨by have h1_ := HC.out; have h2_ := HLT.out; omega⟩, RG, ⟨fun kl h_ => HL.out kl (by simp only [Bool.and_eq_true] at h_; exact h_.1)⟩, ⟨kr.RO.step kr_KOk kr_keyed HN.out.2 HRO.out xn (i, j) HPX.out⟩, ⟨(by (with_reducible repeat (first | apply Kd.S_alloc | apply Kd.S_drewN | apply Kd.S_drew)); exact n_.out)⟩, PTA, PTO, ⟨(by repeat (first | (with_reducible first | exact HB2.out | apply below_alloc | apply pw_below_drewN | apply below_drew1) | exact HB2.out))⟩⟩
            · by_cases c4 : i < k
              · by_cases c6 : k2 < j
                · skip
                  obtain ⟨e, he⟩ : ∃ e : Nat, (k - i).toNat = e := ⟨_, rfl⟩
                  have HE := Aside0.mk he
                  have HE100 : Aside0 (e ≤ 100) := ⟨by rw [← he]; have h1_ := HIN.out; have h2_ := HK.out; have h3_ := HN.out; omega⟩
                  have hE2 : wrap64 (k - i) = (e : Int) := by rw [← he]; have h1_ := HIN.out; have h2_ := HK.out; have h3_ := HN.out; unfold wrap64; omega
                  clear he
                  have HAB_156 : Aside0 (kr.inR n (i, j)) := ⟨by unfold kr.inR; simp only; have h1_ := HIN.out; have h2_ := HK.out; have h3_ := HK2.out; omega⟩
                  have HAB_174 : Aside0 (kr.inR n (k, k2)) := ⟨by unfold kr.inR; simp only; have h1_ := HIN.out; have h2_ := HK.out; have h3_ := HK2.out; omega⟩
                  have c1_0 : decide (i = k) = false := decide_eq_false c1
                  have c1_1 : (i == k) = false := by simp [c1]
                  have c3_0 : decide (j = k) = false := decide_eq_false c3
                  have c3_1 : (j == k) = false := by simp [c3]
                  have c2_0 : decide (j = k2) = false := decide_eq_false c2
                  have c2_1 : (j == k2) = false := by simp [c2]
                  have c5_0 : decide (i = k2) = false := decide_eq_false c5
                  have c5_1 : (i == k2) = false := by simp [c5]
                  have c4_0 : decide (i < k) = true := decide_eq_true c4
                  have c4_g : decide (k > i) = true := c4_0
                  have c6_0 : decide (k2 < j) = true := decide_eq_true c6
                  have c6_g : decide (j > k2) = true := c6_0
                  go_wp2_with (first | ((with_reducible refine gate_dst (N := 156) rfl ?_); refine goesF_ (some 156) rfl rfl Try.func52 (by kernel_rfl) rfl #[.int .i64 (i), .int .i64 (j), .int .i64 (1)] #[.pointer (some ⟨ga, 0, none⟩), .pointer (some ⟨go, 0, none⟩), .pointer (some ⟨g13, 0, none⟩)] rfl rfl (by (try simp only [List.map_toArray, List.map_cons, List.map_nil]); first | done | rfl | (rw [← hk2]; rfl) | (rw [← hE2]; rfl) | (rw [← hE2, ← hki]; rfl)) ?_; refine (calls_of_args rfl (kr_put n nn m HN.out.2 HM.out (i) (j) (1) (xn : Int) HAB_156.out ⟨Int.natCast_nonneg _, by have h_ := HXL.out.2; omega⟩ L HSQ.out D PM.out w.heap.size w.heap.size ga go g13 gL cL (fun k_ => ga < k_ ∧ k_ < go) _ RG.out.owns hzga_0 hzgo_0 hzg13_0 SL.out)).mono ?_; rintro e_ v7 ⟨rfl, hm_, gr, hk_, hb_, hgr⟩; refine ⟨_, rfl, ?_⟩; clear SL; have SL := Aside0.mk hm_; have n_ := Aside0.mk (pw_below_grown HB2.out (some gr) (below_size (by repeat (first | (with_reducible first | exact HB2.out | apply below_alloc | apply pw_below_drewN | apply below_drew1) | exact HB2.out))) hgr (fun k_ e_ => by cases e_; have h1_ := HNUM.out; have h2_ := HG12.out; have h3_ := HG13.out; have h4_ : ga < gr ∧ gr < go := hk_; omega)); clear HB2; have HB2 := n_; clear n_; have n_ := Aside0.mk (blk_grown PTA.out hgr (by intro e_; injection e_ with e_; have h1_ := HNUM.out; have h2_ := HG12.out; have h3_ := HG13.out; have h4_ : ga < gr ∧ gr < go := hk_; omega)); clear PTA; have PTA := n_; clear n_; have n_ := Aside0.mk (blk_grown PTO.out hgr (by intro e_; injection e_ with e_; have h1_ := HNUM.out; have h2_ := HG12.out; have h3_ := HG13.out; have h4_ : ga < gr ∧ gr < go := hk_; omega)); clear PTO; have PTO := n_; clear n_; have n_ := Aside0.mk (RG.out.kept hgr (by intro e_; injection e_ with e_; have h1_ := HNUM.out; have h2_ := HG12.out; have h3_ := HG13.out; have h4_ : ga < gr ∧ gr < go := hk_; omega) (by intro e_; injection e_ with e_; have h1_ := HNUM.out; have h2_ := HG12.out; have h3_ := HG13.out; have h4_ : ga < gr ∧ gr < go := hk_; omega)); clear RG; have RG := n_; clear n_; have n_ := Aside0.mk (blk_grown PTX.out hgr (by intro e_; injection e_ with e_; have h1_ := HNUM.out; have h2_ := HG12.out; have h3_ := HG13.out; have h4_ : ga < gr ∧ gr < go := hk_; omega)); clear PTX; have PTX := n_; clear n_; clear hm_ hk_ hb_ hgr; (try clear hzga_0 hfga_0); have hzga_0 := (blk_cell PTA.out 0).trans rfl; have hfga_0 := blk_frozen PTA.out 0; (try clear hzgo_0 hfgo_0); have hzgo_0 := (blk_cell PTO.out 0).trans rfl; have hfgo_0 := blk_frozen PTO.out 0; (try clear hzg13_0 hfg13_0); have hzg13_0 := (blk_cell PTX.out 0).trans rfl; have hfg13_0 := blk_frozen PTX.out 0) | ((with_reducible refine gate_callee (f := 53) rfl ?_); refine goesL_ (some 166) rfl rfl Try.func53 (by kernel_rfl) rfl #[.int .i64 q, .int .i64 ((e : Nat) : Int)] rfl (by (try simp only [List.map_toArray, List.map_cons, List.map_nil]); first | done | rfl | (rw [← hk2]; rfl) | (rw [← hE2]; rfl) | (rw [← hE2, ← hki]; rfl)) ?_; refine (kr_pow q e HE100.out _).mono ?_; rintro e_ v8 ⟨rfl, hb⟩; refine ⟨_, rfl, ?_⟩; have n_ := Aside0.mk (below_step (by repeat (first | (with_reducible first | exact HB2.out | apply below_alloc | apply pw_below_drewN | apply below_drew1) | exact HB2.out)) hb); clear HB2; have HB2 := n_; clear n_; have n_ := Aside0.mk (blk_below PTA.out hb); clear PTA; have PTA := n_; clear n_; have n_ := Aside0.mk (blk_below PTO.out hb); clear PTO; have PTO := n_; clear n_; have n_ := Aside0.mk (RG.out.kept (grown_of_below hb none) (by simp) (by simp)); clear RG; have RG := n_; clear n_; have n_ := Aside0.mk (blk_below PTX.out hb); clear PTX; have PTX := n_; clear n_; have n_ := Aside0.mk (Kd.S_below SL.out hb); clear SL; have SL := n_; clear n_; clear hb; (try clear hzga_0 hfga_0); have hzga_0 := (blk_cell PTA.out 0).trans rfl; have hfga_0 := blk_frozen PTA.out 0; (try clear hzgo_0 hfgo_0); have hzgo_0 := (blk_cell PTO.out 0).trans rfl; have hfgo_0 := blk_frozen PTO.out 0; (try clear hzg13_0 hfg13_0); have hzg13_0 := (blk_cell PTX.out 0).trans rfl; have hfg13_0 := blk_frozen PTX.out 0) | ((with_reducible refine gate_dst (N := 174) rfl ?_); refine goesF_ (some 174) rfl rfl Try.func52 (by kernel_rfl) rfl #[.int .i64 (k), .int .i64 (k2), .int .i64 (wrap64 (Int.tmod (wrap64 (t * kr.pw q e)) 10007 * Int.tmod (wrap64 (less * less)) 10007))] #[.pointer (some ⟨ga, 0, none⟩), .pointer (some ⟨go, 0, none⟩), .pointer (some ⟨g13, 0, none⟩)] rfl rfl (by (try simp only [List.map_toArray, List.map_cons, List.map_nil]); first | done | rfl | (rw [← hk2]; rfl) | (rw [← hE2]; rfl) | (rw [← hE2, ← hki]; rfl)) ?_; refine (calls_of_args rfl (kr_put n nn m HN.out.2 HM.out (k) (k2) (wrap64 (Int.tmod (wrap64 (t * kr.pw q e)) 10007 * Int.tmod (wrap64 (less * less)) 10007)) (xn : Int) HAB_174.out ⟨Int.natCast_nonneg _, by have h_ := HXL.out.2; omega⟩ (kr.adM n L xn (i, j, 1)) (kr.adM_Sq HSQ.out xn (i, j, 1) (Int.natCast_nonneg _) (by have h_ := HXL.out.2; omega)) D PM.out w.heap.size w.heap.size ga go g13 gL cL (fun k_ => ga < k_ ∧ k_ < go) _ RG.out.owns hzga_0 hzgo_0 hzg13_0 SL.out)).mono ?_; rintro e_ v9 ⟨rfl, hm_, gr, hk_, hb_, hgr⟩; refine ⟨_, rfl, ?_⟩; clear SL; have SL := Aside0.mk hm_; have n_ := Aside0.mk (pw_below_grown HB2.out (some gr) (below_size (by repeat (first | (with_reducible first | exact HB2.out | apply below_alloc | apply pw_below_drewN | apply below_drew1) | exact HB2.out))) hgr (fun k_ e_ => by cases e_; have h1_ := HNUM.out; have h2_ := HG12.out; have h3_ := HG13.out; have h4_ : ga < gr ∧ gr < go := hk_; omega)); clear HB2; have HB2 := n_; clear n_; have n_ := Aside0.mk (blk_grown PTA.out hgr (by intro e_; injection e_ with e_; have h1_ := HNUM.out; have h2_ := HG12.out; have h3_ := HG13.out; have h4_ : ga < gr ∧ gr < go := hk_; omega)); clear PTA; have PTA := n_; clear n_; have n_ := Aside0.mk (blk_grown PTO.out hgr (by intro e_; injection e_ with e_; have h1_ := HNUM.out; have h2_ := HG12.out; have h3_ := HG13.out; have h4_ : ga < gr ∧ gr < go := hk_; omega)); clear PTO; have PTO := n_; clear n_; have n_ := Aside0.mk (RG.out.kept hgr (by intro e_; injection e_ with e_; have h1_ := HNUM.out; have h2_ := HG12.out; have h3_ := HG13.out; have h4_ : ga < gr ∧ gr < go := hk_; omega) (by intro e_; injection e_ with e_; have h1_ := HNUM.out; have h2_ := HG12.out; have h3_ := HG13.out; have h4_ : ga < gr ∧ gr < go := hk_; omega)); clear RG; have RG := n_; clear n_; have n_ := Aside0.mk (blk_grown PTX.out hgr (by intro e_; injection e_ with e_; have h1_ := HNUM.out; have h2_ := HG12.out; have h3_ := HG13.out; have h4_ : ga < gr ∧ gr < go := hk_; omega)); clear PTX; have PTX := n_; clear n_; clear hm_ hk_ hb_ hgr; (try clear hzga_0 hfga_0); have hzga_0 := (blk_cell PTA.out 0).trans rfl; have hfga_0 := blk_frozen PTA.out 0; (try clear hzgo_0 hfgo_0); have hzgo_0 := (blk_cell PTO.out 0).trans rfl; have hfgo_0 := blk_frozen PTO.out 0; (try clear hzg13_0 hfg13_0); have hzg13_0 := (blk_cell PTX.out 0).trans rfl; have hfg13_0 := blk_frozen PTX.out 0))
                  have HOPS : kr.ops k q t less i j = [(i, j, 1), (k, k2, wrap64 (Int.tmod (wrap64 (t * kr.pw q e)) 10007 * Int.tmod (wrap64 (less * less)) 10007))] := by
                    rw [HK2.out] at c2 c5 c6 ⊢
                    unfold kr.ops
                    rw [if_neg (fun h => c1 h.1), if_neg c3, if_neg (fun h => c2 h.1), if_neg c1, if_neg c5, if_pos ⟨c4, c6⟩, HE.out]
                  have n_ : Aside0 (Mx 2 22 v9 w.heap.size (fun k_ => ga < k_ ∧ k_ < go) (.slice (some ⟨gL, 0, none⟩) m cL) (L.set xn (kr.rowI n k q t (i, j)))) := ⟨by rw [← kr.ops_fin2 HXL.out.1 HROW.out HLESS.out HOPS]; exact SL.out⟩
                  go_roundg k1_
                  case measure => omega
                  case rel => exact ⟨_, cnt1, L.set xn (kr.rowI n k q t (i, j)), ⟨by have h1_ := HC.out; have h2_ := HLT.out; omega⟩, RG, ⟨fun kl h_ => HL.out kl (by simp only [Bool.and_eq_true] at h_; exact h_.1)⟩, ⟨kr.RO.step kr_KOk kr_keyed HN.out.2 HRO.out xn (i, j) HPX.out⟩, ⟨(by (with_reducible repeat (first | apply Kd.S_alloc | apply Kd.S_drewN | apply Kd.S_drew)); exact n_.out)⟩, PTA, PTO, ⟨(by repeat (first | (with_reducible first | exact HB2.out | apply below_alloc | apply pw_below_drewN | apply below_drew1) | exact HB2.out))⟩⟩
                · skip
                  have HAB_40 : Aside0 (kr.inR n (i, j)) := ⟨by unfold kr.inR; simp only; have h1_ := HIN.out; have h2_ := HK.out; have h3_ := HK2.out; omega⟩
                  have c1_0 : decide (i = k) = false := decide_eq_false c1
                  have c1_1 : (i == k) = false := by simp [c1]
                  have c3_0 : decide (j = k) = false := decide_eq_false c3
                  have c3_1 : (j == k) = false := by simp [c3]
                  have c2_0 : decide (j = k2) = false := decide_eq_false c2
                  have c2_1 : (j == k2) = false := by simp [c2]
                  have c5_0 : decide (i = k2) = false := decide_eq_false c5
                  have c5_1 : (i == k2) = false := by simp [c5]
                  have c4_0 : decide (i < k) = true := decide_eq_true c4
                  have c4_g : decide (k > i) = true := c4_0
                  have c6_0 : decide (k2 < j) = false := decide_eq_false c6
                  have c6_g : decide (j > k2) = false := c6_0
                  go_wp2_with (first | ((with_reducible refine gate_dst (N := 40) rfl ?_); refine goesF_ (some 40) rfl rfl Try.func52 (by kernel_rfl) rfl #[.int .i64 (i), .int .i64 (j), .int .i64 (1)] #[.pointer (some ⟨ga, 0, none⟩), .pointer (some ⟨go, 0, none⟩), .pointer (some ⟨g13, 0, none⟩)] rfl rfl (by (try simp only [List.map_toArray, List.map_cons, List.map_nil]); first | done | rfl | (rw [← hk2]; rfl) | (rw [← hE2]; rfl) | (rw [← hE2, ← hki]; rfl)) ?_; refine (calls_of_args rfl (kr_put n nn m HN.out.2 HM.out (i) (j) (1) (xn : Int) HAB_40.out ⟨Int.natCast_nonneg _, by have h_ := HXL.out.2; omega⟩ L HSQ.out D PM.out w.heap.size w.heap.size ga go g13 gL cL (fun k_ => ga < k_ ∧ k_ < go) _ RG.out.owns hzga_0 hzgo_0 hzg13_0 SL.out)).mono ?_; rintro e_ v7 ⟨rfl, hm_, gr, hk_, hb_, hgr⟩; refine ⟨_, rfl, ?_⟩; clear SL; have SL := Aside0.mk hm_; have n_ := Aside0.mk (pw_below_grown HB2.out (some gr) (below_size (by repeat (first | (with_reducible first | exact HB2.out | apply below_alloc | apply pw_below_drewN | apply below_drew1) | exact HB2.out))) hgr (fun k_ e_ => by cases e_; have h1_ := HNUM.out; have h2_ := HG12.out; have h3_ := HG13.out; have h4_ : ga < gr ∧ gr < go := hk_; omega)); clear HB2; have HB2 := n_; clear n_; have n_ := Aside0.mk (blk_grown PTA.out hgr (by intro e_; injection e_ with e_; have h1_ := HNUM.out; have h2_ := HG12.out; have h3_ := HG13.out; have h4_ : ga < gr ∧ gr < go := hk_; omega)); clear PTA; have PTA := n_; clear n_; have n_ := Aside0.mk (blk_grown PTO.out hgr (by intro e_; injection e_ with e_; have h1_ := HNUM.out; have h2_ := HG12.out; have h3_ := HG13.out; have h4_ : ga < gr ∧ gr < go := hk_; omega)); clear PTO; have PTO := n_; clear n_; have n_ := Aside0.mk (RG.out.kept hgr (by intro e_; injection e_ with e_; have h1_ := HNUM.out; have h2_ := HG12.out; have h3_ := HG13.out; have h4_ : ga < gr ∧ gr < go := hk_; omega) (by intro e_; injection e_ with e_; have h1_ := HNUM.out; have h2_ := HG12.out; have h3_ := HG13.out; have h4_ : ga < gr ∧ gr < go := hk_; omega)); clear RG; have RG := n_; clear n_; have n_ := Aside0.mk (blk_grown PTX.out hgr (by intro e_; injection e_ with e_; have h1_ := HNUM.out; have h2_ := HG12.out; have h3_ := HG13.out; have h4_ : ga < gr ∧ gr < go := hk_; omega)); clear PTX; have PTX := n_; clear n_; clear hm_ hk_ hb_ hgr; (try clear hzga_0 hfga_0); have hzga_0 := (blk_cell PTA.out 0).trans rfl; have hfga_0 := blk_frozen PTA.out 0; (try clear hzgo_0 hfgo_0); have hzgo_0 := (blk_cell PTO.out 0).trans rfl; have hfgo_0 := blk_frozen PTO.out 0; (try clear hzg13_0 hfg13_0); have hzg13_0 := (blk_cell PTX.out 0).trans rfl; have hfg13_0 := blk_frozen PTX.out 0))
                  have HOPS : kr.ops k q t less i j = [(i, j, 1)] := by
                    rw [HK2.out] at c2 c5 c6
                    unfold kr.ops
                    rw [if_neg (fun h => c1 h.1), if_neg c3, if_neg (fun h => c2 h.1), if_neg c1, if_neg c5, if_neg (fun h => by have h_ := h.2; omega)]
                  have n_ : Aside0 (Mx 2 22 v7 w.heap.size (fun k_ => ga < k_ ∧ k_ < go) (.slice (some ⟨gL, 0, none⟩) m cL) (L.set xn (kr.rowI n k q t (i, j)))) := ⟨by rw [← kr.ops_fin1 HXL.out.1 HROW.out HLESS.out HOPS]; exact SL.out⟩
                  go_roundg k1_
                  case measure => omega
                  case rel => exact ⟨_, cnt1, L.set xn (kr.rowI n k q t (i, j)), ⟨by have h1_ := HC.out; have h2_ := HLT.out; omega⟩, RG, ⟨fun kl h_ => HL.out kl (by simp only [Bool.and_eq_true] at h_; exact h_.1)⟩, ⟨kr.RO.step kr_KOk kr_keyed HN.out.2 HRO.out xn (i, j) HPX.out⟩, ⟨(by (with_reducible repeat (first | apply Kd.S_alloc | apply Kd.S_drewN | apply Kd.S_drew)); exact n_.out)⟩, PTA, PTO, ⟨(by repeat (first | (with_reducible first | exact HB2.out | apply below_alloc | apply pw_below_drewN | apply below_drew1) | exact HB2.out))⟩⟩
              · skip
                have HAB_40 : Aside0 (kr.inR n (i, j)) := ⟨by unfold kr.inR; simp only; have h1_ := HIN.out; have h2_ := HK.out; have h3_ := HK2.out; omega⟩
                have c1_0 : decide (i = k) = false := decide_eq_false c1
                have c1_1 : (i == k) = false := by simp [c1]
                have c3_0 : decide (j = k) = false := decide_eq_false c3
                have c3_1 : (j == k) = false := by simp [c3]
                have c2_0 : decide (j = k2) = false := decide_eq_false c2
                have c2_1 : (j == k2) = false := by simp [c2]
                have c5_0 : decide (i = k2) = false := decide_eq_false c5
                have c5_1 : (i == k2) = false := by simp [c5]
                have c4_0 : decide (i < k) = false := decide_eq_false c4
                have c4_g : decide (k > i) = false := c4_0
                go_wp2_with (first | ((with_reducible refine gate_dst (N := 40) rfl ?_); refine goesF_ (some 40) rfl rfl Try.func52 (by kernel_rfl) rfl #[.int .i64 (i), .int .i64 (j), .int .i64 (1)] #[.pointer (some ⟨ga, 0, none⟩), .pointer (some ⟨go, 0, none⟩), .pointer (some ⟨g13, 0, none⟩)] rfl rfl (by (try simp only [List.map_toArray, List.map_cons, List.map_nil]); first | done | rfl | (rw [← hk2]; rfl) | (rw [← hE2]; rfl) | (rw [← hE2, ← hki]; rfl)) ?_; refine (calls_of_args rfl (kr_put n nn m HN.out.2 HM.out (i) (j) (1) (xn : Int) HAB_40.out ⟨Int.natCast_nonneg _, by have h_ := HXL.out.2; omega⟩ L HSQ.out D PM.out w.heap.size w.heap.size ga go g13 gL cL (fun k_ => ga < k_ ∧ k_ < go) _ RG.out.owns hzga_0 hzgo_0 hzg13_0 SL.out)).mono ?_; rintro e_ v7 ⟨rfl, hm_, gr, hk_, hb_, hgr⟩; refine ⟨_, rfl, ?_⟩; clear SL; have SL := Aside0.mk hm_; have n_ := Aside0.mk (pw_below_grown HB2.out (some gr) (below_size (by repeat (first | (with_reducible first | exact HB2.out | apply below_alloc | apply pw_below_drewN | apply below_drew1) | exact HB2.out))) hgr (fun k_ e_ => by cases e_; have h1_ := HNUM.out; have h2_ := HG12.out; have h3_ := HG13.out; have h4_ : ga < gr ∧ gr < go := hk_; omega)); clear HB2; have HB2 := n_; clear n_; have n_ := Aside0.mk (blk_grown PTA.out hgr (by intro e_; injection e_ with e_; have h1_ := HNUM.out; have h2_ := HG12.out; have h3_ := HG13.out; have h4_ : ga < gr ∧ gr < go := hk_; omega)); clear PTA; have PTA := n_; clear n_; have n_ := Aside0.mk (blk_grown PTO.out hgr (by intro e_; injection e_ with e_; have h1_ := HNUM.out; have h2_ := HG12.out; have h3_ := HG13.out; have h4_ : ga < gr ∧ gr < go := hk_; omega)); clear PTO; have PTO := n_; clear n_; have n_ := Aside0.mk (RG.out.kept hgr (by intro e_; injection e_ with e_; have h1_ := HNUM.out; have h2_ := HG12.out; have h3_ := HG13.out; have h4_ : ga < gr ∧ gr < go := hk_; omega) (by intro e_; injection e_ with e_; have h1_ := HNUM.out; have h2_ := HG12.out; have h3_ := HG13.out; have h4_ : ga < gr ∧ gr < go := hk_; omega)); clear RG; have RG := n_; clear n_; have n_ := Aside0.mk (blk_grown PTX.out hgr (by intro e_; injection e_ with e_; have h1_ := HNUM.out; have h2_ := HG12.out; have h3_ := HG13.out; have h4_ : ga < gr ∧ gr < go := hk_; omega)); clear PTX; have PTX := n_; clear n_; clear hm_ hk_ hb_ hgr; (try clear hzga_0 hfga_0); have hzga_0 := (blk_cell PTA.out 0).trans rfl; have hfga_0 := blk_frozen PTA.out 0; (try clear hzgo_0 hfgo_0); have hzgo_0 := (blk_cell PTO.out 0).trans rfl; have hfgo_0 := blk_frozen PTO.out 0; (try clear hzg13_0 hfg13_0); have hzg13_0 := (blk_cell PTX.out 0).trans rfl; have hfg13_0 := blk_frozen PTX.out 0))
                have HOPS : kr.ops k q t less i j = [(i, j, 1)] := by
                  rw [HK2.out] at c2 c5
                  unfold kr.ops
                  rw [if_neg (fun h => c1 h.1), if_neg c3, if_neg (fun h => c2 h.1), if_neg c1, if_neg c5, if_neg (fun h => by have h_ := h.1; omega)]
                have n_ : Aside0 (Mx 2 22 v7 w.heap.size (fun k_ => ga < k_ ∧ k_ < go) (.slice (some ⟨gL, 0, none⟩) m cL) (L.set xn (kr.rowI n k q t (i, j)))) := ⟨by rw [← kr.ops_fin1 HXL.out.1 HROW.out HLESS.out HOPS]; exact SL.out⟩
                go_roundg k1_
                case measure => omega
                case rel => exact ⟨_, cnt1, L.set xn (kr.rowI n k q t (i, j)), ⟨by have h1_ := HC.out; have h2_ := HLT.out; omega⟩, RG, ⟨fun kl h_ => HL.out kl (by simp only [Bool.and_eq_true] at h_; exact h_.1)⟩, ⟨kr.RO.step kr_KOk kr_keyed HN.out.2 HRO.out xn (i, j) HPX.out⟩, ⟨(by (with_reducible repeat (first | apply Kd.S_alloc | apply Kd.S_drewN | apply Kd.S_drew)); exact n_.out)⟩, PTA, PTO, ⟨(by repeat (first | (with_reducible first | exact HB2.out | apply below_alloc | apply pw_below_drewN | apply below_drew1) | exact HB2.out))⟩⟩
def impl_KrammerMatrix.base (k : Nat) (n q t z : Int) : Option (List (List Int)) := if 2 ≤ n ∧ n ≤ 8 ∧ 1 ≤ z ∧ z < n then (impl_zeroRows.f k ((kr.PF n.toNat).length : Int)).bind fun Z => if Z = List.replicate (kr.PF n.toNat).length (List.replicate (kr.PF n.toNat).length 0) then some (kr.mat n.toNat z q t) else none else none
set_option maxHeartbeats 8000000 in
set_option maxRecDepth 100000 in
theorem kr_call (k : Nat) (n q t : Int) (gn gq gt : Nat) (w0 : World) (hn : (w0).cell? ⟨gn, 0, none⟩ = some (.int .i64 n)) (hq : (w0).cell? ⟨gq, 0, none⟩ = some (.int .i64 q)) (ht : (w0).cell? ⟨gt, 0, none⟩ = some (.int .i64 t)) (kz : Int) (B : List (List Int)) (W : World) (hB : Below w0.heap.size w0 W) (h : impl_KrammerMatrix.base k n q t kz = some B) :
    Calls Try.prog 35 (#[.int .i64 kz] ++ #[.pointer (some ⟨gn, 0, none⟩), .pointer (some ⟨gq, 0, none⟩), .pointer (some ⟨gt, 0, none⟩)]) W fun e w' => ∃ v0_ : Value, e = .returned v0_ ∧ Kd.S (Kd.slice 2 (Kd.int .i64)) 22 w' W.heap.size (fun _ => True) v0_ B ∧ Below W.heap.size W w' := by
  refine calls_of_args (args' := #[.int .i64 kz, .pointer (some ⟨gn, 0, none⟩), .pointer (some ⟨gq, 0, none⟩), .pointer (some ⟨gt, 0, none⟩)]) rfl ?_
  unfold impl_KrammerMatrix.base at h
  by_cases hg : 2 ≤ n ∧ n ≤ 8 ∧ 1 ≤ kz ∧ kz < n
  case neg => rw [if_neg hg] at h; cases h
  rw [if_pos hg] at h
  obtain ⟨Z, hZ, h2⟩ := Option.bind_eq_some_iff.mp h
  clear h
  by_cases hz : Z = List.replicate (kr.PF n.toNat).length (List.replicate (kr.PF n.toNat).length 0)
  case neg => rw [if_neg hz] at h2; cases h2
  rw [if_pos hz, Option.some.injEq] at h2
  subst h2
  subst hz
  obtain ⟨m, hm⟩ : ∃ m : Nat, n = m := ⟨n.toNat, by omega⟩
  subst hm
  rw [Int.toNat_natCast] at hZ ⊢
  have hzn := (hB.cell (World.block_lt_of_cell? w0 _ hn)).trans hn
  have hzq := (hB.cell (World.block_lt_of_cell? w0 _ hq)).trans hq
  have hzt := (hB.cell (World.block_lt_of_cell? w0 _ ht)).trans ht
  have HCON := Aside0.mk (kr_letter k m kz q t (by omega) (by omega) _ rfl hZ W)
  clear hB hn hq ht hZ hg
  go_enter Try.func35, Try.ntmps35
  go_wp2_with (first | ((with_reducible refine gate_callee (f := 36) rfl ?_); refine goesL_ (some 10) rfl rfl Try.func36 (by kernel_rfl) rfl #[.int .i64 (m : Int), .int .i64 kz, .int .i64 q, .int .i64 t] rfl (by (try simp only [List.map_toArray, List.map_cons, List.map_nil]); first | done | rfl) ?_; (refine HCON.out.mono ?_); rintro e w' ⟨v10, rfl, ho, hb⟩; refine ⟨_, rfl, ?_⟩; have SA := Aside0.mk ho; have HB2 := Aside0.mk hb; clear ho hb hzn hzq hzt))
  go_ret
  exact ⟨_, rfl, (by (with_reducible repeat (first | apply Kd.S_alloc | apply Kd.S_drewN | apply Kd.S_drew)); exact SA.out), (by repeat (first | (with_reducible first | exact HB2.out | apply below_alloc | apply pw_below_drewN | apply below_drew1) | exact HB2.out))⟩
def pi_inv (k : Nat) (B : List (List Int)) : Option (List (List Int)) := (impl_inverseIn.f k B).bind fun x => some x.1
def pi_prod (k : Nat) (base : Int → Option (List (List Int))) (n : Int) (l : List Int) : Option (List (List Int)) := if 1 ≤ n ∧ n ≤ 28 ∧ pi.lim l then (impl_unitIn.f k n).bind fun U => pi.go (pi.ownG n.toNat base (pi_inv k)) (fun A B => impl_multiplyIn.f k A B) l U else none
theorem pi_prod_mono (k : Nat) (b b' : Int → Option (List (List Int))) (hb : ∀ z, LeO (b z) (b' z)) (n : Int) (l : List Int) : LeO (pi_prod k b n l) (pi_prod (k + 1) b' n l) := by
  unfold pi_prod
  refine LeO.ite (LeO.bind (impl_unitIn.mono _ _) (fun _ => ?_)) (LeO.refl _)
  exact pi.go_mono _ _ _ _ (fun z => pi.ownG_mono _ _ _ _ _ hb (fun B => by unfold pi_inv; exact LeO.bind (impl_inverseIn.mono _ _) (fun _ => LeO.refl _)) z) (fun A B => impl_multiplyIn.mono _ _ _) _ _
theorem zeroISS (w : World) : (zeroValue 26).run Try.prog w = .ok (.slice none 0 0) w := by kernel_rfl
set_option maxHeartbeats 8000000 in
set_option maxRecDepth 100000 in
theorem product_calls (k : Nat) (n s0 : Int) (A1 : Option Addr) (c1 : Nat) (l1 : List Int) (F : FuncId) (fn : Func) (FR : Array Value) (base : Int → Option (List (List Int))) (r : List (List Int)) (w : World) (hf : Try.prog.funcs[F]? = some fn) (hname : (fn.name == "runtime.NumGoroutine") = false) (hbd : fn.body.isSome = true) (hr1 : Kd.C (Kd.int .i64) w A1 l1.length l1) (hc1 : l1.length ≤ c1)
    (hcall : ∀ (kz : Int) (B : List (List Int)) (W : World), Below w.heap.size w W → base kz = some B → Calls Try.prog F (#[.int .i64 kz] ++ FR) W fun e w' => ∃ v0_ : Value, e = .returned v0_ ∧ Kd.S (Kd.slice 2 (Kd.int .i64)) 22 w' W.heap.size (fun _ => True) v0_ B ∧ Below W.heap.size W w')
    (h : pi_prod k base n l1 = some r) : Calls Try.prog 25 #[.agg #[.int .i64 s0, .slice A1 l1.length c1], .int .i64 n, .func (.func F) #[] FR] w fun e w' => ∃ v0_ : Value, e = .returned v0_ ∧ Kd.S (Kd.slice 2 (Kd.int .i64)) 22 w' w.heap.size (fun _ => True) v0_ r ∧ Below w.heap.size w w' := by
  have hu := Try.underlying29
  have hmm := @run_makeMap Try.prog
  have HR0 := Aside0.mk hr1
  have HC0 := Aside0.mk hc1
  have HB := Aside0.mk (Below.refl w.heap.size w)
  have HF := Aside0.mk (And.intro hf (And.intro hname hbd))
  have HCALL := Aside0.mk hcall
  clear hr1 hc1 hf hname hbd hcall
  unfold pi_prod at h
  by_cases hg : 1 ≤ n ∧ n ≤ 28 ∧ pi.lim l1
  case neg => rw [if_neg hg] at h; cases h
  rw [if_pos hg] at h
  have HN := Aside0.mk (And.intro hg.1 hg.2.1)
  have HG := Aside0.mk hg.2.2
  clear hg
  obtain ⟨U, HU_, H1_⟩ := Option.bind_eq_some_iff.mp h
  clear h
  have HU := Aside0.mk HU_
  have H1 := Aside0.mk H1_
  clear HU_ H1_
  obtain ⟨m, hm⟩ : ∃ m : Nat, n = m := ⟨n.toNat, by have := HN.out; omega⟩
  subst hm
  rw [Int.toNat_natCast] at H1
  go_enter Try.func25, Try.ntmps25
  go_wp2_with (first | ((with_reducible refine gate_dst (N := 3) rfl ?_); refine box_event ?hg (N := 3) ?hd (cs := #[.int .i64 s0, .slice A1 l1.length c1]) (t := 29) ?hr ?_; (case hd => rfl); (case hg => rfl); (case hr => first | (go_simp; done) | (go_simp; rfl)); intro gb hg w1 hbox hb; have n_ := Aside0.mk (below_step (by repeat (first | (with_reducible first | exact HB.out | apply below_alloc | apply pw_below_drewN | apply below_drew1) | exact HB.out)) hb); clear HB; have HB := n_; clear n_; have HCB1 := Aside0.mk ((blk_cell hbox 1).trans rfl); have HB2 := Aside0.mk (Below.refl w1.heap.size w1); have HR1 := Aside0.mk (Kd.C_below HR0.out HB.out); clear hg hb hbox) | ((with_reducible refine gate_callee (f := 27) rfl ?_); obtain ⟨gm, hgm⟩ : ∃ x, w1.heap.size = x := ⟨_, rfl⟩; have hom := World.ownsMap_made w1 Try.prog 2 RH; have hb1 : Below w1.heap.size w1 (w1.alloc (.map #[] 0)) := below_alloc (Below.refl _ _) _; rw [hgm] at hom ⊢; generalize w1.alloc (.map #[] 0) = w2 at hom hb1 ⊢; have HGM := Aside0.mk hgm; have OM := Aside0.mk hom; clear HB2; have HB2 := Aside0.mk hb1; clear hom hb1 hgm; refine goesL_ (some 13) rfl rfl Try.func27 (by kernel_rfl) rfl #[.int .i64 (m : Int)] rfl (by (try simp only [List.map_toArray, List.map_cons, List.map_nil]); first | done | rfl) ?_; (refine (impl_unitIn.calls k (m : Int) U _ HU.out).mono ?_); rintro e w3 ⟨v13, rfl, ho, hb⟩; refine ⟨_, rfl, ?_⟩; have SO := Aside0.mk (apart_old ho OM.out.lt (below_size (by repeat (first | (with_reducible first | exact HB2.out | apply below_alloc | apply pw_below_drewN | apply below_drew1) | exact HB2.out)))); have n_ := Aside0.mk (OM.out.kept (grown_of_below hb none) (by simp)); clear OM; have OM := n_; clear n_; have n_ := Aside0.mk (below_step (by repeat (first | (with_reducible first | exact HB2.out | apply below_alloc | apply pw_below_drewN | apply below_drew1) | exact HB2.out)) hb); clear HB2; have HB2 := n_; clear n_; clear hb ho; have hzb := (HB2.out.cell (World.block_lt_of_cell? w1 _ HCB1.out)).trans HCB1.out))
  (try clear hzb)
  go_loopg [8, 17] (l1.length + 1) (fun kq v8 v17 wr => ∃ (i : Int) (q : Nat) (O : List (List Int)) (D : DataW Value) (nn : Nat), v17 = .int .i64 i ∧ Aside0 (q < kq) ∧ Aside0 ((q : Int) + i = (l1.length : Int) ∧ 0 ≤ i) ∧ Aside0 (pi.go (pi.ownG m base (pi_inv k)) (fun A B => impl_multiplyIn.f k A B) (l1.drop i.toNat) O = some r) ∧ Aside0 (nn ≤ 2 * i.toNat) ∧ Aside0 (Kd.S (Kd.slice 2 (Kd.int .i64)) 22 wr w1.heap.size (fun k_ => some k_ ≠ some gm) v8 O) ∧ Aside0 (World.ownsMap wr Try.prog 2 RH gm nn D) ∧ Aside0 (Known 2 22 wr w1.heap.size gm m (pi.ownG m base (pi_inv k)) D) ∧ Aside0 (Below w1.heap.size w1 wr))
  case atStart => exact ⟨0, l1.length, U, .map [], 0, (by first | rfl | (simp; done) | (simp [*]; done)), ⟨by omega⟩, ⟨by omega⟩, H1, ⟨by omega⟩, ⟨(by (with_reducible repeat (first | apply Kd.S_alloc | apply Kd.S_drewN | apply Kd.S_drew)); exact SO.out)⟩, ⟨OM.out⟩, ⟨Known.made⟩, ⟨(by repeat (first | (with_reducible first | exact HB2.out | apply below_alloc | apply pw_below_drewN | apply below_drew1) | exact HB2.out))⟩⟩
  case round =>
    clear SO OM HB2 H1
    obtain ⟨i, q, O, D, nn, rfl, HQ, HI, H1, HNN, SO, OM, KN, HB2⟩ := hrel
    obtain ⟨wk, rfl⟩ : ∃ x, x = wr := ⟨_, rfl⟩
    cases gk with
    | zero => exact absurd HQ.out (Nat.not_lt_zero _)
    | succ k1_ =>
    cases q with
    | zero =>
      have cib : decide (i < (l1.length : Int)) = false := decide_eq_false (by have := HI.out; omega)
      have HF2 : Aside0 (O = r) := ⟨by have h_ := H1.out; rw [List.drop_of_length_le (by have := HI.out; omega)] at h_; exact Option.some.inj h_⟩
      rw [HF2.out] at SO
      go_wp2
      go_ret
      exact ⟨_, rfl, Kd.S_lower (Kd.S_mono (by (with_reducible repeat (first | apply Kd.S_alloc | apply Kd.S_drewN | apply Kd.S_drew)); exact SO.out) (fun _ _ => trivial)) (below_size HB.out), below_step HB.out (by repeat (first | (with_reducible first | exact HB2.out | apply below_alloc | apply pw_below_drewN | apply below_drew1) | exact HB2.out))⟩
    | succ q =>
      have hi0 : 0 ≤ i := HI.out.2
      have hi1 : i < (l1.length : Int) := by have := HI.out; omega
      have cib : decide (i < (l1.length : Int)) = true := decide_eq_true hi1
      obtain ⟨ad, e1, hz_⟩ := Kd.at_int HR1.out i hi0 hi1
      cases e1
      have hz := (HB2.out.cell (World.block_lt_of_cell? w1 _ hz_)).trans hz_
      have hkz := HG.out.at_ i hi0 hi1
      have HA1 := H1.out
      rw [pi.drop_cons l1 i hi0 hi1] at HA1
      clear H1
      have ppi : (0 ≤ i) = True := eq_true hi0
      have qqi : (i < (l1.length : Int)) = True := eq_true hi1
      have HI0 := Aside0.mk hi0
      have HI1 := Aside0.mk hi1
      clear hi0 hi1 hz_
      obtain ⟨z, hzz⟩ : ∃ z, rd l1 i = z := ⟨_, rfl⟩
      rw [hzz] at hz hkz HA1
      clear hzz
      have HKEY : Aside0 (keyOf Try.prog 2 (.int .i64 z) = some (.int .i64 z)) := ⟨Maps.keyOf_int_mk Try.underlying2 (WalkArith.wf_i64 (by omega))⟩
      have HZR := Aside0.mk hkz
      clear hkz
      unfold pi.go at HA1
      obtain ⟨A, HO_, HA2⟩ := Option.bind_eq_some_iff.mp HA1
      clear HA1
      obtain ⟨O', HT_, H1_⟩ := Option.bind_eq_some_iff.mp HA2
      clear HA2
      have HT := Aside0.mk HT_
      have H1 := Aside0.mk H1_
      have HOWN := Aside0.mk HO_
      clear HT_ H1_ HO_
      have HOWN2 := Aside0.mk (pi.ownG_some HOWN.out)
      have HNM : Aside0 (nn + 2 < maxLen) := ⟨by have := HNN.out; have := HI1.out; have := HI0.out; have := HG.out.1; unfold maxLen; omega⟩
      obtain ⟨v23, hrun, hv_⟩ := lookH OM.out (Maps.int_keyed Try.underlying2) Try.underlying60 (zeroISS wk) z HKEY.out
      have HV := Aside0.mk hv_
      clear hv_
      obtain ⟨AO, cO, eO⟩ := Kd.S_slice SO.out
      subst eO
      rcases KN.out z v23 HV.out with e_ | ⟨A9, h1_, h2_, h3_⟩
      case inr =>
        have e_ := Option.some.inj (h1_.symm.trans HOWN.out)
        subst e_
        obtain ⟨gF, cF, e_, _, _, _⟩ := Kd.S_form h3_ (by rw [h2_]; have := HN.out; omega)
        subst e_
        have SA := Aside0.mk h3_
        clear h1_ h2_ h3_
        have hnil : (binOp .eql 26 (.slice (some ⟨gF, 0, none⟩) A9.length cF) (.slice none 0 0)).run Try.prog wk = .ok (.bool false) wk := Lib.run_eql_slice_nil wk 26 22 _ _ _ _ _ Try.underlying26
        go_wp2_with (first | ((with_reducible refine gate_callee (f := 48) rfl ?_); refine goesL_ (some 46) rfl rfl Try.func48 (by kernel_rfl) rfl #[.slice AO O.length cO, .slice (some ⟨gF, 0, none⟩) A9.length cF] rfl (by (try simp only [List.map_toArray, List.map_cons, List.map_nil]); first | done | rfl) ?_; (refine (impl_multiplyIn.calls k AO cO O (some ⟨gF, 0, none⟩) cF A9 O' _ ?side1 ?side2 ?side3 ?side4 HT.out).mono ?_); (case side1 => repeat (first | exact (Kd.S_reads' SO.out).2.2 | (with_reducible refine Kd.C_alloc ?_ _) | (with_reducible refine Kd.C_drewN ?_ _) | (with_reducible refine Kd.C_drew ?_))); (case side2 => exact (Kd.S_reads' SO.out).2.1); (case side3 => repeat (first | exact (Kd.S_reads' SA.out).2.2 | (with_reducible refine Kd.C_alloc ?_ _) | (with_reducible refine Kd.C_drewN ?_ _) | (with_reducible refine Kd.C_drew ?_))); (case side4 => exact (Kd.S_reads' SA.out).2.1); rintro e wm ⟨vm, rfl, ho, hb⟩; refine ⟨_, rfl, ?_⟩; have SN := Aside0.mk (apart_old ho OM.out.lt (below_size (by repeat (first | (with_reducible first | exact HB2.out | apply below_alloc | apply pw_below_drewN | apply below_drew1) | exact HB2.out)))); have n_ := Aside0.mk (OM.out.kept (grown_of_below hb none) (by simp)); clear OM; have OM := n_; clear n_; have n_ := Aside0.mk (KN.out.below hb); clear KN; have KN := n_; clear n_; have n_ := Aside0.mk (Kd.S_below SA.out hb); clear SA; have SA := n_; clear n_; have n_ := Aside0.mk (below_step (by repeat (first | (with_reducible first | exact HB2.out | apply below_alloc | apply pw_below_drewN | apply below_drew1) | exact HB2.out)) hb); clear HB2; have HB2 := n_; clear n_; clear hb ho))
        go_roundg k1_
        case measure => omega
        case rel =>
          have HW := Aside0.mk (show wrap64 (i + 1) = i + 1 by have := HI0.out; have := HI1.out; have := HG.out.1; unfold wrap64; omega)
          exact ⟨wrap64 (i + 1), q, O', D, nn, (by first | rfl | (simp; done) | (simp [*]; done)), ⟨by have := HQ.out; omega⟩, ⟨by have := HI.out; rw [HW.out]; omega⟩, ⟨by rw [HW.out]; exact H1.out⟩, ⟨by have := HNN.out; have := HI0.out; rw [HW.out]; omega⟩, ⟨(by (with_reducible repeat (first | apply Kd.S_alloc | apply Kd.S_drewN | apply Kd.S_drew)); exact SN.out)⟩, OM, KN, ⟨(by repeat (first | (with_reducible first | exact HB2.out | apply below_alloc | apply pw_below_drewN | apply below_drew1) | exact HB2.out))⟩⟩
      case inl =>
        subst e_
        have hnil : (binOp .eql 26 (.slice none 0 0) (.slice none 0 0)).run Try.prog wk = .ok (.bool true) wk := Lib.run_eql_slice_nil wk 26 22 _ _ _ _ _ Try.underlying26
        have HO3 := HOWN2.out.1
        unfold pi.own at HO3
        obtain ⟨B, HB_, HI_⟩ := Option.bind_eq_some_iff.mp HO3
        clear HO3
        have HBASE := Aside0.mk HB_
        have HINV := Aside0.mk HI_
        clear HB_ HI_
        obtain ⟨kz, hK⟩ : ∃ x, pi.ks z = x := ⟨_, rfl⟩
        rw [hK] at HBASE
        have HSZ : Aside0 (impl_size.f z = some kz) := ⟨by unfold impl_size.f; rw [← hK]; rfl⟩
        clear hK
        by_cases ez : z < 0
        case neg =>
          have czb : decide (z < 0) = false := decide_eq_false ez
          have h_ := HINV.out
          rw [if_neg ez] at h_
          have h_ := Option.some.inj h_
          subst h_
          go_wp2_with (first | ((with_reducible refine gate_callee (f := 46) rfl ?_); refine goesL_ (some 29) rfl rfl Try.func46 (by kernel_rfl) rfl #[.int .i64 z] rfl (by (try simp only [List.map_toArray, List.map_cons, List.map_nil]); first | done | rfl) ?_; (with_reducible refine (impl_size.calls z kz _ HSZ.out).mono ?_); rintro e w' ⟨rfl, ⟨nd, rfl⟩⟩; refine ⟨_, rfl, ?_⟩; (first | (rw [drewN_self wk]; generalize hq_ : World.drewN wk _ = w3) | (rw [drew_self wk]; generalize hq1_ : World.drew wk = w3; have hq_ : World.drewN wk 1 = w3 := hq1_; clear hq1_) | (rw [show wk = World.drewN wk 0 from rfl]; generalize hq_ : World.drewN wk 0 = w3)); have n_ := Aside0.mk (Kd.S_at hq_ SO.out); clear SO; have SO := n_; clear n_; have n_ := Aside0.mk (own_at hq_ OM.out); clear OM; have OM := n_; clear n_; have n_ := Aside0.mk (Known.at_ hq_ KN.out); clear KN; have KN := n_; clear n_; have n_ := Aside0.mk (ar_below_at hq_ HB2.out); clear HB2; have HB2 := n_; clear n_; clear hq_) | ((with_reducible refine gate_dst (N := 30) rfl ?_); refine goesF_ (some 30) rfl rfl HF.out.1 HF.out.2.1 HF.out.2.2 #[.int .i64 kz] FR rfl rfl (by (try simp only [List.map_toArray, List.map_cons, List.map_nil]); first | done | rfl) ?_; (refine (HCALL.out kz B w3 (below_step HB.out HB2.out) HBASE.out).mono ?_); rintro e w4 ⟨v30, rfl, ho, hb⟩; refine ⟨_, rfl, ?_⟩; have SB := Aside0.mk (apart_old ho OM.out.lt (below_size (by repeat (first | (with_reducible first | exact HB2.out | apply below_alloc | apply pw_below_drewN | apply below_drew1) | exact HB2.out)))); have n_ := Aside0.mk (Kd.S_below SO.out hb); clear SO; have SO := n_; clear n_; have n_ := Aside0.mk (OM.out.kept (grown_of_below hb none) (by simp)); clear OM; have OM := n_; clear n_; have n_ := Aside0.mk (KN.out.below hb); clear KN; have KN := n_; clear n_; have n_ := Aside0.mk (below_step (by repeat (first | (with_reducible first | exact HB2.out | apply below_alloc | apply pw_below_drewN | apply below_drew1) | exact HB2.out)) hb); clear HB2; have HB2 := n_; clear n_; clear hb ho; obtain ⟨AA, cA9, e_⟩ := Kd.S_slice SB.out; subst e_) | (at_mapUpdate; refine wpList_mapUpdate_own _ rfl (.tmp 25) (.tmp 26) (.tmp 30) 60 rfl 2 26 (Maps.int_keyed Try.underlying2) Try.underlying60 RH gm nn D rfl OM.out (by have := HNM.out; omega) _ _ (.int .i64 z) rfl rfl HKEY.out (.held (.slice AA B.length cA9)) [] rfl ?_; intro w5 hom hgr; have HAT := Aside0.mk (put_same OM.out z (.slice AA B.length cA9)); have n_ := Aside0.mk (Kd.S_grown SO.out hgr (fun _ hk_ => hk_)); clear SO; have SO := n_; clear n_; have n_ := Aside0.mk (Kd.S_grown SB.out hgr (fun _ hk_ => hk_)); clear SB; have SB := n_; clear n_; have n_ := Aside0.mk (KN.out.step hgr); clear KN; have KN := n_; clear n_; have n_ := Aside0.mk (pw_below_grown HB2.out (some gm) (below_size HB2.out) hgr (fun k_ e_ => by cases e_; exact Nat.le_of_eq HGM.out)); clear HB2 OM; have HB2 := n_; have OM := Aside0.mk hom; clear n_ hom hgr) | ((with_reducible refine gate_dst (N := 45) rfl ?_); refine wpList_lookup_held _ rfl _ _ 60 rfl 2 26 (Maps.int_keyed Try.underlying2) Try.underlying60 (zeroISS _) gm (nn + 1) (D.put (.int .i64 z) (.held (.slice AA B.length cA9))) rfl OM.out _ z rfl HKEY.out ?_; intro vl hvl; have e_ := DataW.held.inj (hvl.symm.trans HAT.out); subst e_; clear hvl) | ((with_reducible refine gate_callee (f := 48) rfl ?_); refine goesL_ (some 46) rfl rfl Try.func48 (by kernel_rfl) rfl #[.slice AO O.length cO, .slice AA B.length cA9] rfl (by (try simp only [List.map_toArray, List.map_cons, List.map_nil]); first | done | rfl) ?_; (refine (impl_multiplyIn.calls k AO cO O AA cA9 B O' _ ?side1 ?side2 ?side3 ?side4 HT.out).mono ?_); (case side1 => repeat (first | exact (Kd.S_reads' SO.out).2.2 | (with_reducible refine Kd.C_alloc ?_ _) | (with_reducible refine Kd.C_drewN ?_ _) | (with_reducible refine Kd.C_drew ?_))); (case side2 => exact (Kd.S_reads' SO.out).2.1); (case side3 => repeat (first | exact (Kd.S_reads' SB.out).2.2 | (with_reducible refine Kd.C_alloc ?_ _) | (with_reducible refine Kd.C_drewN ?_ _) | (with_reducible refine Kd.C_drew ?_))); (case side4 => exact (Kd.S_reads' SB.out).2.1); rintro e wm ⟨vm, rfl, ho, hb⟩; refine ⟨_, rfl, ?_⟩; have SN := Aside0.mk (apart_old ho OM.out.lt (below_size (by repeat (first | (with_reducible first | exact HB2.out | apply below_alloc | apply pw_below_drewN | apply below_drew1) | exact HB2.out)))); have n_ := Aside0.mk (OM.out.kept (grown_of_below hb none) (by simp)); clear OM; have OM := n_; clear n_; have n_ := Aside0.mk (KN.out.below hb); clear KN; have KN := n_; clear n_; have n_ := Aside0.mk (Kd.S_below SB.out hb); clear SB; have SB := n_; clear n_; have n_ := Aside0.mk (below_step (by repeat (first | (with_reducible first | exact HB2.out | apply below_alloc | apply pw_below_drewN | apply below_drew1) | exact HB2.out)) hb); clear HB2; have HB2 := n_; clear n_; clear hb ho))
          have n_ := Aside0.mk (KN.out.put z (.slice AA B.length cA9) B (fun k_ hk_ => put_other D z _ k_ hk_) HAT.out HOWN.out HOWN2.out.2 SB.out); clear KN; have KN := n_; clear n_
          go_roundg k1_
          case measure => omega
          case rel =>
            have HW := Aside0.mk (show wrap64 (i + 1) = i + 1 by have := HI0.out; have := HI1.out; have := HG.out.1; unfold wrap64; omega)
            exact ⟨wrap64 (i + 1), q, O', (D.put (.int .i64 z) (.held (.slice AA B.length cA9))), (nn + 1), (by first | rfl | (simp; done) | (simp [*]; done)), ⟨by have := HQ.out; omega⟩, ⟨by have := HI.out; rw [HW.out]; omega⟩, ⟨by rw [HW.out]; exact H1.out⟩, ⟨by have := HNN.out; have := HI0.out; rw [HW.out]; omega⟩, ⟨(by (with_reducible repeat (first | apply Kd.S_alloc | apply Kd.S_drewN | apply Kd.S_drew)); exact SN.out)⟩, OM, KN, ⟨(by repeat (first | (with_reducible first | exact HB2.out | apply below_alloc | apply pw_below_drewN | apply below_drew1) | exact HB2.out))⟩⟩
        case pos =>
          have czb : decide (z < 0) = true := decide_eq_true ez
          have h_ := HINV.out
          rw [if_pos ez] at h_
          unfold pi_inv at h_
          obtain ⟨⟨A', code⟩, HS_, HE_⟩ := Option.bind_eq_some_iff.mp h_
          have HE_ := Option.some.inj HE_
          dsimp only at HE_
          subst HE_
          have HSV := Aside0.mk HS_
          clear h_ HS_
          go_wp2_with (first | ((with_reducible refine gate_callee (f := 46) rfl ?_); refine goesL_ (some 29) rfl rfl Try.func46 (by kernel_rfl) rfl #[.int .i64 z] rfl (by (try simp only [List.map_toArray, List.map_cons, List.map_nil]); first | done | rfl) ?_; (with_reducible refine (impl_size.calls z kz _ HSZ.out).mono ?_); rintro e w' ⟨rfl, ⟨nd, rfl⟩⟩; refine ⟨_, rfl, ?_⟩; (first | (rw [drewN_self wk]; generalize hq_ : World.drewN wk _ = w3) | (rw [drew_self wk]; generalize hq1_ : World.drew wk = w3; have hq_ : World.drewN wk 1 = w3 := hq1_; clear hq1_) | (rw [show wk = World.drewN wk 0 from rfl]; generalize hq_ : World.drewN wk 0 = w3)); have n_ := Aside0.mk (Kd.S_at hq_ SO.out); clear SO; have SO := n_; clear n_; have n_ := Aside0.mk (own_at hq_ OM.out); clear OM; have OM := n_; clear n_; have n_ := Aside0.mk (Known.at_ hq_ KN.out); clear KN; have KN := n_; clear n_; have n_ := Aside0.mk (ar_below_at hq_ HB2.out); clear HB2; have HB2 := n_; clear n_; clear hq_) | ((with_reducible refine gate_dst (N := 30) rfl ?_); refine goesF_ (some 30) rfl rfl HF.out.1 HF.out.2.1 HF.out.2.2 #[.int .i64 kz] FR rfl rfl (by (try simp only [List.map_toArray, List.map_cons, List.map_nil]); first | done | rfl) ?_; (refine (HCALL.out kz B w3 (below_step HB.out HB2.out) HBASE.out).mono ?_); rintro e w4 ⟨v30, rfl, ho, hb⟩; refine ⟨_, rfl, ?_⟩; have SB := Aside0.mk (apart_old ho OM.out.lt (below_size (by repeat (first | (with_reducible first | exact HB2.out | apply below_alloc | apply pw_below_drewN | apply below_drew1) | exact HB2.out)))); have n_ := Aside0.mk (Kd.S_below SO.out hb); clear SO; have SO := n_; clear n_; have n_ := Aside0.mk (OM.out.kept (grown_of_below hb none) (by simp)); clear OM; have OM := n_; clear n_; have n_ := Aside0.mk (KN.out.below hb); clear KN; have KN := n_; clear n_; have n_ := Aside0.mk (below_step (by repeat (first | (with_reducible first | exact HB2.out | apply below_alloc | apply pw_below_drewN | apply below_drew1) | exact HB2.out)) hb); clear HB2; have HB2 := n_; clear n_; clear hb ho; obtain ⟨AA, cA9, e_⟩ := Kd.S_slice SB.out; subst e_) | (at_mapUpdate; refine wpList_mapUpdate_own _ rfl (.tmp 25) (.tmp 26) (.tmp 30) 60 rfl 2 26 (Maps.int_keyed Try.underlying2) Try.underlying60 RH gm nn D rfl OM.out (by have := HNM.out; omega) _ _ (.int .i64 z) rfl rfl HKEY.out (.held (.slice AA B.length cA9)) [] rfl ?_; intro w5 hom hgr; have HAT := Aside0.mk (put_same OM.out z (.slice AA B.length cA9)); have n_ := Aside0.mk (Kd.S_grown SO.out hgr (fun _ hk_ => hk_)); clear SO; have SO := n_; clear n_; have n_ := Aside0.mk (Kd.S_grown SB.out hgr (fun _ hk_ => hk_)); clear SB; have SB := n_; clear n_; have n_ := Aside0.mk (KN.out.step hgr); clear KN; have KN := n_; clear n_; have n_ := Aside0.mk (pw_below_grown HB2.out (some gm) (below_size HB2.out) hgr (fun k_ e_ => by cases e_; exact Nat.le_of_eq HGM.out)); clear HB2 OM; have HB2 := n_; have OM := Aside0.mk hom; clear n_ hom hgr) | ((with_reducible refine gate_dst (N := 38) rfl ?_); refine wpList_lookup_held _ rfl _ _ 60 rfl 2 26 (Maps.int_keyed Try.underlying2) Try.underlying60 (zeroISS _) gm (nn + 1) (D.put (.int .i64 z) (.held (.slice AA B.length cA9))) rfl OM.out _ z rfl HKEY.out ?_; intro vl hvl; have e_ := DataW.held.inj (hvl.symm.trans HAT.out); subst e_; clear hvl) | ((with_reducible refine gate_callee (f := 47) rfl ?_); refine goesL_ (some 39) rfl rfl Try.func47 (by kernel_rfl) rfl #[.slice AA B.length cA9] rfl (by (try simp only [List.map_toArray, List.map_cons, List.map_nil]); first | done | rfl) ?_; (refine (impl_inverseIn.calls k AA cA9 B A' code _ ?side1 ?side2 HSV.out).mono ?_); (case side1 => repeat (first | exact (Kd.S_reads' SB.out).2.2 | (with_reducible refine Kd.C_alloc ?_ _) | (with_reducible refine Kd.C_drewN ?_ _) | (with_reducible refine Kd.C_drew ?_))); (case side2 => exact (Kd.S_reads' SB.out).2.1); rintro e w6 ⟨v39, rfl, ho, hb⟩; refine ⟨_, rfl, ?_⟩; have SA := Aside0.mk (apart_old ho OM.out.lt (below_size (by repeat (first | (with_reducible first | exact HB2.out | apply below_alloc | apply pw_below_drewN | apply below_drew1) | exact HB2.out)))); have n_ := Aside0.mk (Kd.S_below SO.out hb); clear SO; have SO := n_; clear n_; have n_ := Aside0.mk (OM.out.kept (grown_of_below hb none) (by simp)); clear OM; have OM := n_; clear n_; have n_ := Aside0.mk (KN.out.below hb); clear KN; have KN := n_; clear n_; have n_ := Aside0.mk (below_step (by repeat (first | (with_reducible first | exact HB2.out | apply below_alloc | apply pw_below_drewN | apply below_drew1) | exact HB2.out)) hb); clear HB2; have HB2 := n_; clear n_; clear hb ho HAT; obtain ⟨AF, cF, e_⟩ := Kd.S_slice SA.out; subst e_) | (at_mapUpdate; refine wpList_mapUpdate_own _ rfl (.tmp 34) (.tmp 35) (.tmp 40) 60 rfl 2 26 (Maps.int_keyed Try.underlying2) Try.underlying60 RH gm (nn + 1) (D.put (.int .i64 z) (.held (.slice AA B.length cA9))) rfl OM.out (by have := HNM.out; omega) _ _ (.int .i64 z) rfl rfl HKEY.out (.held (.slice AF A'.length cF)) [] rfl ?_; intro w7 hom hgr; have HAT := Aside0.mk (put_same OM.out z (.slice AF A'.length cF)); have n_ := Aside0.mk (Kd.S_grown SO.out hgr (fun _ hk_ => hk_)); clear SO; have SO := n_; clear n_; have n_ := Aside0.mk (Kd.S_grown SA.out hgr (fun _ hk_ => hk_)); clear SA; have SA := n_; clear n_; have n_ := Aside0.mk (KN.out.step hgr); clear KN; have KN := n_; clear n_; have n_ := Aside0.mk (pw_below_grown HB2.out (some gm) (below_size HB2.out) hgr (fun k_ e_ => by cases e_; exact Nat.le_of_eq HGM.out)); clear HB2 OM; have HB2 := n_; have OM := Aside0.mk hom; clear n_ hom hgr) | ((with_reducible refine gate_dst (N := 45) rfl ?_); refine wpList_lookup_held _ rfl _ _ 60 rfl 2 26 (Maps.int_keyed Try.underlying2) Try.underlying60 (zeroISS _) gm (nn + 1 + 1) ((D.put (.int .i64 z) (.held (.slice AA B.length cA9))).put (.int .i64 z) (.held (.slice AF A'.length cF))) rfl OM.out _ z rfl HKEY.out ?_; intro vl hvl; have e_ := DataW.held.inj (hvl.symm.trans HAT.out); subst e_; clear hvl) | ((with_reducible refine gate_callee (f := 48) rfl ?_); refine goesL_ (some 46) rfl rfl Try.func48 (by kernel_rfl) rfl #[.slice AO O.length cO, .slice AF A'.length cF] rfl (by (try simp only [List.map_toArray, List.map_cons, List.map_nil]); first | done | rfl) ?_; (refine (impl_multiplyIn.calls k AO cO O AF cF A' O' _ ?side1 ?side2 ?side3 ?side4 HT.out).mono ?_); (case side1 => repeat (first | exact (Kd.S_reads' SO.out).2.2 | (with_reducible refine Kd.C_alloc ?_ _) | (with_reducible refine Kd.C_drewN ?_ _) | (with_reducible refine Kd.C_drew ?_))); (case side2 => exact (Kd.S_reads' SO.out).2.1); (case side3 => repeat (first | exact (Kd.S_reads' SA.out).2.2 | (with_reducible refine Kd.C_alloc ?_ _) | (with_reducible refine Kd.C_drewN ?_ _) | (with_reducible refine Kd.C_drew ?_))); (case side4 => exact (Kd.S_reads' SA.out).2.1); rintro e wm ⟨vm, rfl, ho, hb⟩; refine ⟨_, rfl, ?_⟩; have SN := Aside0.mk (apart_old ho OM.out.lt (below_size (by repeat (first | (with_reducible first | exact HB2.out | apply below_alloc | apply pw_below_drewN | apply below_drew1) | exact HB2.out)))); have n_ := Aside0.mk (OM.out.kept (grown_of_below hb none) (by simp)); clear OM; have OM := n_; clear n_; have n_ := Aside0.mk (KN.out.below hb); clear KN; have KN := n_; clear n_; have n_ := Aside0.mk (Kd.S_below SA.out hb); clear SA; have SA := n_; clear n_; have n_ := Aside0.mk (below_step (by repeat (first | (with_reducible first | exact HB2.out | apply below_alloc | apply pw_below_drewN | apply below_drew1) | exact HB2.out)) hb); clear HB2; have HB2 := n_; clear n_; clear hb ho))
          have n_ := Aside0.mk (KN.out.put (D' := ((D.put (.int .i64 z) (.held (.slice AA B.length cA9))).put (.int .i64 z) (.held (.slice AF A'.length cF)))) z (.slice AF A'.length cF) A' (fun k_ hk_ => (put_other _ z _ k_ hk_).trans (put_other D z _ k_ hk_)) HAT.out HOWN.out HOWN2.out.2 SA.out); clear KN; have KN := n_; clear n_
          go_roundg k1_
          case measure => omega
          case rel =>
            have HW := Aside0.mk (show wrap64 (i + 1) = i + 1 by have := HI0.out; have := HI1.out; have := HG.out.1; unfold wrap64; omega)
            exact ⟨wrap64 (i + 1), q, O', ((D.put (.int .i64 z) (.held (.slice AA B.length cA9))).put (.int .i64 z) (.held (.slice AF A'.length cF))), (nn + 1 + 1), (by first | rfl | (simp; done) | (simp [*]; done)), ⟨by have := HQ.out; omega⟩, ⟨by have := HI.out; rw [HW.out]; omega⟩, ⟨by rw [HW.out]; exact H1.out⟩, ⟨by have := HNN.out; have := HI0.out; rw [HW.out]; omega⟩, ⟨(by (with_reducible repeat (first | apply Kd.S_alloc | apply Kd.S_drewN | apply Kd.S_drew)); exact SN.out)⟩, OM, KN, ⟨(by repeat (first | (with_reducible first | exact HB2.out | apply below_alloc | apply pw_below_drewN | apply below_drew1) | exact HB2.out))⟩⟩
def impl_KrammerMatrix.f (k : Nat) (a0_0 : Int) (l0_1 : List Int) (a1 : Int) (a2 : Int) : Option (List (List Int) × Int) := (impl_IsBraid.f k a0_0 l0_1).bind fun c => if c = true then if a0_0 < 2 then some ([], 2) else (impl_isUnit.f a1).bind fun d => if d = true then (impl_isUnit.f a2).bind fun e => if e = true then if a0_0 ≤ 8 then (pi_prod k (impl_KrammerMatrix.base k a0_0 a1 a2) ((kr.PF a0_0.toNat).length : Int) l0_1).bind fun r => some (r, 0) else none else some ([], 2) else some ([], 2) else some ([], 1)
theorem impl_KrammerMatrix.mono : ∀ a0 a1 a2 a3 k, LeO (impl_KrammerMatrix.f k a0 a1 a2 a3) (impl_KrammerMatrix.f (k + 1) a0 a1 a2 a3) := by
  intro a0 a1 a2 a3 k
  unfold impl_KrammerMatrix.f
  refine LeO.bind (impl_IsBraid.mono _ _ _) (fun _ => LeO.ite (LeO.ite (LeO.refl _) (LeO.bind (LeO.refl _) (fun _ => LeO.ite (LeO.bind (LeO.refl _) (fun _ => LeO.ite (LeO.ite (LeO.bind (pi_prod_mono _ _ _ (fun z => ?_) _ _) (fun _ => LeO.refl _)) (LeO.refl _)) (LeO.refl _))) (LeO.refl _)))) (LeO.refl _))
  unfold impl_KrammerMatrix.base
  exact LeO.ite (LeO.bind (impl_zeroRows.mono _ _) (fun _ => LeO.refl _)) (LeO.refl _)
set_option maxHeartbeats 8000000 in
set_option maxRecDepth 100000 in
theorem impl_KrammerMatrix.calls (k : Nat) (a0_0 : Int) (A0_1 : Option Addr) (c0_1 : Nat) (l0_1 : List Int) (a1 : Int) (a2 : Int) (r1 : List (List Int)) (r2 : Int) (w : World) (hr0_1 : Kd.C (Kd.int .i64) w A0_1 l0_1.length l0_1) (hc0_1 : l0_1.length ≤ c0_1) (h : impl_KrammerMatrix.f k a0_0 l0_1 a1 a2 = some (r1, r2)) :
    Calls Try.prog 18 #[.agg #[.int .i64 a0_0, .slice A0_1 l0_1.length c0_1], .int .i64 a1, .int .i64 a2] w fun e w' => ∃ v0_ : Value, e = .returned (.tuple #[v0_, .int .i64 r2]) ∧ Kd.S (Kd.slice 2 (Kd.int .i64)) 22 w' w.heap.size (fun _ => True) v0_ r1 ∧ Below w.heap.size w w' := by
  have hu := Try.underlying29
  have HR0 := Aside0.mk hr0_1
  have HC0 := Aside0.mk hc0_1
  clear hr0_1 hc0_1
  have HB := Aside0.mk (Below.refl w.heap.size w)
  have H0 := h
  clear h
  unfold impl_KrammerMatrix.f at H0
  obtain ⟨t1, A1_, H1⟩ := Option.bind_eq_some_iff.mp H0
  clear H0
  have A1 := Aside0.mk A1_
  clear A1_
  cases t1 with
  | false =>
    simp only [Bool.false_eq_true, if_false, if_true, Option.some.injEq, Prod.mk.injEq] at H1
    obtain ⟨rfl, rfl⟩ := H1
    go_enter Try.func18, Try.ntmps18
    go_wp2_with (first | ((with_reducible refine gate_dst (N := 3) rfl ?_); refine box_event ?hg (N := 3) ?hd (cs := #[.int .i64 a0_0, .slice A0_1 l0_1.length c0_1]) (t := 29) ?hr ?_; (case hd => rfl); (case hg => rfl); (case hr => first | (go_simp; done) | (go_simp; rfl)); intro gb hg w1 hbox hb; have n_ := Aside0.mk (below_step (by repeat (first | (with_reducible first | exact HB.out | apply below_alloc | apply pw_below_drewN | apply below_drew1) | exact HB.out)) hb); clear HB; have HB := n_; clear n_; have HCB0 := Aside0.mk ((blk_cell hbox 0).trans rfl); have HCB1 := Aside0.mk ((blk_cell hbox 1).trans rfl); have HB2 := Aside0.mk (Below.refl w1.heap.size w1); have HRA := Aside0.mk (Kd.C_below HR0.out HB.out); clear hg hb; have hzgb_0 := HCB0.out; have hzgb_1 := HCB1.out; clear hbox) | ((with_reducible refine gate_dst (N := 4) rfl ?_); refine box_event ?hg (N := 4) ?hd (cs := #[.int .i64 a1]) (t := 2) ?hr ?_; (case hd => rfl); (case hg => rfl); (case hr => first | (go_simp; done) | (go_simp; rfl)); intro gq hg wq hbox hb; have n_ := Aside0.mk (below_step (by repeat (first | (with_reducible first | exact HB.out | apply below_alloc | apply pw_below_drewN | apply below_drew1) | exact HB.out)) hb); clear HB; have HB := n_; clear n_; have n_ := Aside0.mk ((hb.cell (World.block_lt_of_cell? w1 _ HCB0.out)).trans HCB0.out); clear HCB0; have HCB0 := n_; clear n_; (try clear hzgb_0); have hzgb_0 := HCB0.out; have n_ := Aside0.mk ((hb.cell (World.block_lt_of_cell? w1 _ HCB1.out)).trans HCB1.out); clear HCB1; have HCB1 := n_; clear n_; (try clear hzgb_1); have hzgb_1 := HCB1.out; have HCq := Aside0.mk ((blk_cell hbox 0).trans rfl); have hzq := HCq.out; clear HB2 HRA; have HB2 := Aside0.mk (Below.refl wq.heap.size wq); have HRA := Aside0.mk (Kd.C_below HR0.out HB.out); clear hg hb hbox) | ((with_reducible refine gate_dst (N := 5) rfl ?_); refine box_event ?hg (N := 5) ?hd (cs := #[.int .i64 a2]) (t := 2) ?hr ?_; (case hd => rfl); (case hg => rfl); (case hr => first | (go_simp; done) | (go_simp; rfl)); intro gt hg wt hbox hb; have n_ := Aside0.mk (below_step (by repeat (first | (with_reducible first | exact HB.out | apply below_alloc | apply pw_below_drewN | apply below_drew1) | exact HB.out)) hb); clear HB; have HB := n_; clear n_; have n_ := Aside0.mk ((hb.cell (World.block_lt_of_cell? wq _ HCB0.out)).trans HCB0.out); clear HCB0; have HCB0 := n_; clear n_; (try clear hzgb_0); have hzgb_0 := HCB0.out; have n_ := Aside0.mk ((hb.cell (World.block_lt_of_cell? wq _ HCB1.out)).trans HCB1.out); clear HCB1; have HCB1 := n_; clear n_; (try clear hzgb_1); have hzgb_1 := HCB1.out; have n_ := Aside0.mk ((hb.cell (World.block_lt_of_cell? wq _ HCq.out)).trans HCq.out); clear HCq; have HCq := n_; clear n_; (try clear hzq); have hzq := HCq.out; have HCt := Aside0.mk ((blk_cell hbox 0).trans rfl); have hzt := HCt.out; clear HB2 HRA; have HB2 := Aside0.mk (Below.refl wt.heap.size wt); have HRA := Aside0.mk (Kd.C_below HR0.out HB.out); clear hg hb hbox) | ((with_reducible refine gate_callee (f := 23) rfl ?_); refine goesL_ (some 11) rfl rfl Try.func23 (by kernel_rfl) rfl #[.agg #[.int .i64 a0_0, .slice A0_1 l0_1.length c0_1]] rfl (by (try simp only [List.map_toArray, List.map_cons, List.map_nil]); first | done | rfl) ?_; (with_reducible refine (impl_IsBraid.calls k a0_0 _ _ l0_1 _ _ ?side1 ?side2 A1.out).mono ?_); (case side1 => repeat (first | exact (Kd.C_below HRA.out HB2.out) | (with_reducible refine Kd.C_alloc ?_ _) | (with_reducible refine Kd.C_drewN ?_ _) | (with_reducible refine Kd.C_drew ?_))); (case side2 => exact HC0.out); rintro e wi ⟨rfl, hb⟩; refine ⟨_, rfl, ?_⟩; have n_ := Aside0.mk (below_step (by repeat (first | (with_reducible first | exact HB2.out | apply below_alloc | apply pw_below_drewN | apply below_drew1) | exact HB2.out)) hb); clear HB2; have HB2 := n_; clear n_; clear hb; (try clear hzgb_0); have hzgb_0 := (HB2.out.cell (World.block_lt_of_cell? wt _ HCB0.out)).trans HCB0.out; (try clear hzgb_1); have hzgb_1 := (HB2.out.cell (World.block_lt_of_cell? wt _ HCB1.out)).trans HCB1.out; (try clear hzq); have hzq := (HB2.out.cell (World.block_lt_of_cell? wt _ HCq.out)).trans HCq.out; (try clear hzt); have hzt := (HB2.out.cell (World.block_lt_of_cell? wt _ HCt.out)).trans HCt.out))
    go_ret2
    exact ⟨_, rfl, Kd.S_nil _ _ _ _ _, below_step HB.out (by repeat (first | (with_reducible first | exact HB2.out | apply below_alloc | apply pw_below_drewN | apply below_drew1) | exact HB2.out))⟩
  | true =>
    simp only [if_true] at H1
    by_cases c2 : a0_0 < 2
    · have c2b : decide (a0_0 < 2) = true := decide_eq_true c2
      rw [if_pos c2] at H1
      simp only [Bool.false_eq_true, if_false, if_true, Option.some.injEq, Prod.mk.injEq] at H1
      obtain ⟨rfl, rfl⟩ := H1
      go_enter Try.func18, Try.ntmps18
      go_wp2_with (first | ((with_reducible refine gate_dst (N := 3) rfl ?_); refine box_event ?hg (N := 3) ?hd (cs := #[.int .i64 a0_0, .slice A0_1 l0_1.length c0_1]) (t := 29) ?hr ?_; (case hd => rfl); (case hg => rfl); (case hr => first | (go_simp; done) | (go_simp; rfl)); intro gb hg w1 hbox hb; have n_ := Aside0.mk (below_step (by repeat (first | (with_reducible first | exact HB.out | apply below_alloc | apply pw_below_drewN | apply below_drew1) | exact HB.out)) hb); clear HB; have HB := n_; clear n_; have HCB0 := Aside0.mk ((blk_cell hbox 0).trans rfl); have HCB1 := Aside0.mk ((blk_cell hbox 1).trans rfl); have HB2 := Aside0.mk (Below.refl w1.heap.size w1); have HRA := Aside0.mk (Kd.C_below HR0.out HB.out); clear hg hb; have hzgb_0 := HCB0.out; have hzgb_1 := HCB1.out; clear hbox) | ((with_reducible refine gate_dst (N := 4) rfl ?_); refine box_event ?hg (N := 4) ?hd (cs := #[.int .i64 a1]) (t := 2) ?hr ?_; (case hd => rfl); (case hg => rfl); (case hr => first | (go_simp; done) | (go_simp; rfl)); intro gq hg wq hbox hb; have n_ := Aside0.mk (below_step (by repeat (first | (with_reducible first | exact HB.out | apply below_alloc | apply pw_below_drewN | apply below_drew1) | exact HB.out)) hb); clear HB; have HB := n_; clear n_; have n_ := Aside0.mk ((hb.cell (World.block_lt_of_cell? w1 _ HCB0.out)).trans HCB0.out); clear HCB0; have HCB0 := n_; clear n_; (try clear hzgb_0); have hzgb_0 := HCB0.out; have n_ := Aside0.mk ((hb.cell (World.block_lt_of_cell? w1 _ HCB1.out)).trans HCB1.out); clear HCB1; have HCB1 := n_; clear n_; (try clear hzgb_1); have hzgb_1 := HCB1.out; have HCq := Aside0.mk ((blk_cell hbox 0).trans rfl); have hzq := HCq.out; clear HB2 HRA; have HB2 := Aside0.mk (Below.refl wq.heap.size wq); have HRA := Aside0.mk (Kd.C_below HR0.out HB.out); clear hg hb hbox) | ((with_reducible refine gate_dst (N := 5) rfl ?_); refine box_event ?hg (N := 5) ?hd (cs := #[.int .i64 a2]) (t := 2) ?hr ?_; (case hd => rfl); (case hg => rfl); (case hr => first | (go_simp; done) | (go_simp; rfl)); intro gt hg wt hbox hb; have n_ := Aside0.mk (below_step (by repeat (first | (with_reducible first | exact HB.out | apply below_alloc | apply pw_below_drewN | apply below_drew1) | exact HB.out)) hb); clear HB; have HB := n_; clear n_; have n_ := Aside0.mk ((hb.cell (World.block_lt_of_cell? wq _ HCB0.out)).trans HCB0.out); clear HCB0; have HCB0 := n_; clear n_; (try clear hzgb_0); have hzgb_0 := HCB0.out; have n_ := Aside0.mk ((hb.cell (World.block_lt_of_cell? wq _ HCB1.out)).trans HCB1.out); clear HCB1; have HCB1 := n_; clear n_; (try clear hzgb_1); have hzgb_1 := HCB1.out; have n_ := Aside0.mk ((hb.cell (World.block_lt_of_cell? wq _ HCq.out)).trans HCq.out); clear HCq; have HCq := n_; clear n_; (try clear hzq); have hzq := HCq.out; have HCt := Aside0.mk ((blk_cell hbox 0).trans rfl); have hzt := HCt.out; clear HB2 HRA; have HB2 := Aside0.mk (Below.refl wt.heap.size wt); have HRA := Aside0.mk (Kd.C_below HR0.out HB.out); clear hg hb hbox) | ((with_reducible refine gate_callee (f := 23) rfl ?_); refine goesL_ (some 11) rfl rfl Try.func23 (by kernel_rfl) rfl #[.agg #[.int .i64 a0_0, .slice A0_1 l0_1.length c0_1]] rfl (by (try simp only [List.map_toArray, List.map_cons, List.map_nil]); first | done | rfl) ?_; (with_reducible refine (impl_IsBraid.calls k a0_0 _ _ l0_1 _ _ ?side1 ?side2 A1.out).mono ?_); (case side1 => repeat (first | exact (Kd.C_below HRA.out HB2.out) | (with_reducible refine Kd.C_alloc ?_ _) | (with_reducible refine Kd.C_drewN ?_ _) | (with_reducible refine Kd.C_drew ?_))); (case side2 => exact HC0.out); rintro e wi ⟨rfl, hb⟩; refine ⟨_, rfl, ?_⟩; have n_ := Aside0.mk (below_step (by repeat (first | (with_reducible first | exact HB2.out | apply below_alloc | apply pw_below_drewN | apply below_drew1) | exact HB2.out)) hb); clear HB2; have HB2 := n_; clear n_; clear hb; (try clear hzgb_0); have hzgb_0 := (HB2.out.cell (World.block_lt_of_cell? wt _ HCB0.out)).trans HCB0.out; (try clear hzgb_1); have hzgb_1 := (HB2.out.cell (World.block_lt_of_cell? wt _ HCB1.out)).trans HCB1.out; (try clear hzq); have hzq := (HB2.out.cell (World.block_lt_of_cell? wt _ HCq.out)).trans HCq.out; (try clear hzt); have hzt := (HB2.out.cell (World.block_lt_of_cell? wt _ HCt.out)).trans HCt.out))
      go_ret2
      exact ⟨_, rfl, Kd.S_nil _ _ _ _ _, below_step HB.out (by repeat (first | (with_reducible first | exact HB2.out | apply below_alloc | apply pw_below_drewN | apply below_drew1) | exact HB2.out))⟩
    have c2b : decide (a0_0 < 2) = false := decide_eq_false c2
    rw [if_neg c2] at H1
    obtain ⟨t2, A2_, H2⟩ := Option.bind_eq_some_iff.mp H1
    clear H1
    have A2 := Aside0.mk A2_
    clear A2_
    cases t2 with
    | false =>
      simp only [Bool.false_eq_true, if_false, if_true, Option.some.injEq, Prod.mk.injEq] at H2
      obtain ⟨rfl, rfl⟩ := H2
      go_enter Try.func18, Try.ntmps18
      go_wp2_with (first | ((with_reducible refine gate_dst (N := 3) rfl ?_); refine box_event ?hg (N := 3) ?hd (cs := #[.int .i64 a0_0, .slice A0_1 l0_1.length c0_1]) (t := 29) ?hr ?_; (case hd => rfl); (case hg => rfl); (case hr => first | (go_simp; done) | (go_simp; rfl)); intro gb hg w1 hbox hb; have n_ := Aside0.mk (below_step (by repeat (first | (with_reducible first | exact HB.out | apply below_alloc | apply pw_below_drewN | apply below_drew1) | exact HB.out)) hb); clear HB; have HB := n_; clear n_; have HCB0 := Aside0.mk ((blk_cell hbox 0).trans rfl); have HCB1 := Aside0.mk ((blk_cell hbox 1).trans rfl); have HB2 := Aside0.mk (Below.refl w1.heap.size w1); have HRA := Aside0.mk (Kd.C_below HR0.out HB.out); clear hg hb; have hzgb_0 := HCB0.out; have hzgb_1 := HCB1.out; clear hbox) | ((with_reducible refine gate_dst (N := 4) rfl ?_); refine box_event ?hg (N := 4) ?hd (cs := #[.int .i64 a1]) (t := 2) ?hr ?_; (case hd => rfl); (case hg => rfl); (case hr => first | (go_simp; done) | (go_simp; rfl)); intro gq hg wq hbox hb; have n_ := Aside0.mk (below_step (by repeat (first | (with_reducible first | exact HB.out | apply below_alloc | apply pw_below_drewN | apply below_drew1) | exact HB.out)) hb); clear HB; have HB := n_; clear n_; have n_ := Aside0.mk ((hb.cell (World.block_lt_of_cell? w1 _ HCB0.out)).trans HCB0.out); clear HCB0; have HCB0 := n_; clear n_; (try clear hzgb_0); have hzgb_0 := HCB0.out; have n_ := Aside0.mk ((hb.cell (World.block_lt_of_cell? w1 _ HCB1.out)).trans HCB1.out); clear HCB1; have HCB1 := n_; clear n_; (try clear hzgb_1); have hzgb_1 := HCB1.out; have HCq := Aside0.mk ((blk_cell hbox 0).trans rfl); have hzq := HCq.out; clear HB2 HRA; have HB2 := Aside0.mk (Below.refl wq.heap.size wq); have HRA := Aside0.mk (Kd.C_below HR0.out HB.out); clear hg hb hbox) | ((with_reducible refine gate_dst (N := 5) rfl ?_); refine box_event ?hg (N := 5) ?hd (cs := #[.int .i64 a2]) (t := 2) ?hr ?_; (case hd => rfl); (case hg => rfl); (case hr => first | (go_simp; done) | (go_simp; rfl)); intro gt hg wt hbox hb; have n_ := Aside0.mk (below_step (by repeat (first | (with_reducible first | exact HB.out | apply below_alloc | apply pw_below_drewN | apply below_drew1) | exact HB.out)) hb); clear HB; have HB := n_; clear n_; have n_ := Aside0.mk ((hb.cell (World.block_lt_of_cell? wq _ HCB0.out)).trans HCB0.out); clear HCB0; have HCB0 := n_; clear n_; (try clear hzgb_0); have hzgb_0 := HCB0.out; have n_ := Aside0.mk ((hb.cell (World.block_lt_of_cell? wq _ HCB1.out)).trans HCB1.out); clear HCB1; have HCB1 := n_; clear n_; (try clear hzgb_1); have hzgb_1 := HCB1.out; have n_ := Aside0.mk ((hb.cell (World.block_lt_of_cell? wq _ HCq.out)).trans HCq.out); clear HCq; have HCq := n_; clear n_; (try clear hzq); have hzq := HCq.out; have HCt := Aside0.mk ((blk_cell hbox 0).trans rfl); have hzt := HCt.out; clear HB2 HRA; have HB2 := Aside0.mk (Below.refl wt.heap.size wt); have HRA := Aside0.mk (Kd.C_below HR0.out HB.out); clear hg hb hbox) | ((with_reducible refine gate_callee (f := 23) rfl ?_); refine goesL_ (some 11) rfl rfl Try.func23 (by kernel_rfl) rfl #[.agg #[.int .i64 a0_0, .slice A0_1 l0_1.length c0_1]] rfl (by (try simp only [List.map_toArray, List.map_cons, List.map_nil]); first | done | rfl) ?_; (with_reducible refine (impl_IsBraid.calls k a0_0 _ _ l0_1 _ _ ?side1 ?side2 A1.out).mono ?_); (case side1 => repeat (first | exact (Kd.C_below HRA.out HB2.out) | (with_reducible refine Kd.C_alloc ?_ _) | (with_reducible refine Kd.C_drewN ?_ _) | (with_reducible refine Kd.C_drew ?_))); (case side2 => exact HC0.out); rintro e wi ⟨rfl, hb⟩; refine ⟨_, rfl, ?_⟩; have n_ := Aside0.mk (below_step (by repeat (first | (with_reducible first | exact HB2.out | apply below_alloc | apply pw_below_drewN | apply below_drew1) | exact HB2.out)) hb); clear HB2; have HB2 := n_; clear n_; clear hb; (try clear hzgb_0); have hzgb_0 := (HB2.out.cell (World.block_lt_of_cell? wt _ HCB0.out)).trans HCB0.out; (try clear hzgb_1); have hzgb_1 := (HB2.out.cell (World.block_lt_of_cell? wt _ HCB1.out)).trans HCB1.out; (try clear hzq); have hzq := (HB2.out.cell (World.block_lt_of_cell? wt _ HCq.out)).trans HCq.out; (try clear hzt); have hzt := (HB2.out.cell (World.block_lt_of_cell? wt _ HCt.out)).trans HCt.out) | (go_at_call 24; refine calls_of_args (args' := #[.int .i64 a1]) (by (try simp only [List.map_toArray, List.map_cons, List.map_nil]); first | done | rfl) ?_; (with_reducible refine (impl_isUnit.calls a1 _ _ A2.out).mono ?_); rintro e wi ⟨rfl, ⟨nd, rfl⟩⟩; generalize hq_ : World.drewN _ nd = wj; have n_ := Aside0.mk (ar_below_at hq_ HB2.out); clear HB2; have HB2 := n_; clear n_; clear hq_; (try clear hzgb_0); have hzgb_0 := (HB2.out.cell (World.block_lt_of_cell? wt _ HCB0.out)).trans HCB0.out; (try clear hzgb_1); have hzgb_1 := (HB2.out.cell (World.block_lt_of_cell? wt _ HCB1.out)).trans HCB1.out; (try clear hzq); have hzq := (HB2.out.cell (World.block_lt_of_cell? wt _ HCq.out)).trans HCq.out; (try clear hzt); have hzt := (HB2.out.cell (World.block_lt_of_cell? wt _ HCt.out)).trans HCt.out))
      go_ret2
      exact ⟨_, rfl, Kd.S_nil _ _ _ _ _, below_step HB.out (by repeat (first | (with_reducible first | exact HB2.out | apply below_alloc | apply pw_below_drewN | apply below_drew1) | exact HB2.out))⟩
    | true =>
      simp only [if_true] at H2
      obtain ⟨t3, A3_, H3⟩ := Option.bind_eq_some_iff.mp H2
      clear H2
      have A3 := Aside0.mk A3_
      clear A3_
      cases t3 with
      | false =>
        simp only [Bool.false_eq_true, if_false, if_true, Option.some.injEq, Prod.mk.injEq] at H3
        obtain ⟨rfl, rfl⟩ := H3
        go_enter Try.func18, Try.ntmps18
        go_wp2_with (first | ((with_reducible refine gate_dst (N := 3) rfl ?_); refine box_event ?hg (N := 3) ?hd (cs := #[.int .i64 a0_0, .slice A0_1 l0_1.length c0_1]) (t := 29) ?hr ?_; (case hd => rfl); (case hg => rfl); (case hr => first | (go_simp; done) | (go_simp; rfl)); intro gb hg w1 hbox hb; have n_ := Aside0.mk (below_step (by repeat (first | (with_reducible first | exact HB.out | apply below_alloc | apply pw_below_drewN | apply below_drew1) | exact HB.out)) hb); clear HB; have HB := n_; clear n_; have HCB0 := Aside0.mk ((blk_cell hbox 0).trans rfl); have HCB1 := Aside0.mk ((blk_cell hbox 1).trans rfl); have HB2 := Aside0.mk (Below.refl w1.heap.size w1); have HRA := Aside0.mk (Kd.C_below HR0.out HB.out); clear hg hb; have hzgb_0 := HCB0.out; have hzgb_1 := HCB1.out; clear hbox) | ((with_reducible refine gate_dst (N := 4) rfl ?_); refine box_event ?hg (N := 4) ?hd (cs := #[.int .i64 a1]) (t := 2) ?hr ?_; (case hd => rfl); (case hg => rfl); (case hr => first | (go_simp; done) | (go_simp; rfl)); intro gq hg wq hbox hb; have n_ := Aside0.mk (below_step (by repeat (first | (with_reducible first | exact HB.out | apply below_alloc | apply pw_below_drewN | apply below_drew1) | exact HB.out)) hb); clear HB; have HB := n_; clear n_; have n_ := Aside0.mk ((hb.cell (World.block_lt_of_cell? w1 _ HCB0.out)).trans HCB0.out); clear HCB0; have HCB0 := n_; clear n_; (try clear hzgb_0); have hzgb_0 := HCB0.out; have n_ := Aside0.mk ((hb.cell (World.block_lt_of_cell? w1 _ HCB1.out)).trans HCB1.out); clear HCB1; have HCB1 := n_; clear n_; (try clear hzgb_1); have hzgb_1 := HCB1.out; have HCq := Aside0.mk ((blk_cell hbox 0).trans rfl); have hzq := HCq.out; clear HB2 HRA; have HB2 := Aside0.mk (Below.refl wq.heap.size wq); have HRA := Aside0.mk (Kd.C_below HR0.out HB.out); clear hg hb hbox) | ((with_reducible refine gate_dst (N := 5) rfl ?_); refine box_event ?hg (N := 5) ?hd (cs := #[.int .i64 a2]) (t := 2) ?hr ?_; (case hd => rfl); (case hg => rfl); (case hr => first | (go_simp; done) | (go_simp; rfl)); intro gt hg wt hbox hb; have n_ := Aside0.mk (below_step (by repeat (first | (with_reducible first | exact HB.out | apply below_alloc | apply pw_below_drewN | apply below_drew1) | exact HB.out)) hb); clear HB; have HB := n_; clear n_; have n_ := Aside0.mk ((hb.cell (World.block_lt_of_cell? wq _ HCB0.out)).trans HCB0.out); clear HCB0; have HCB0 := n_; clear n_; (try clear hzgb_0); have hzgb_0 := HCB0.out; have n_ := Aside0.mk ((hb.cell (World.block_lt_of_cell? wq _ HCB1.out)).trans HCB1.out); clear HCB1; have HCB1 := n_; clear n_; (try clear hzgb_1); have hzgb_1 := HCB1.out; have n_ := Aside0.mk ((hb.cell (World.block_lt_of_cell? wq _ HCq.out)).trans HCq.out); clear HCq; have HCq := n_; clear n_; (try clear hzq); have hzq := HCq.out; have HCt := Aside0.mk ((blk_cell hbox 0).trans rfl); have hzt := HCt.out; clear HB2 HRA; have HB2 := Aside0.mk (Below.refl wt.heap.size wt); have HRA := Aside0.mk (Kd.C_below HR0.out HB.out); clear hg hb hbox) | ((with_reducible refine gate_callee (f := 23) rfl ?_); refine goesL_ (some 11) rfl rfl Try.func23 (by kernel_rfl) rfl #[.agg #[.int .i64 a0_0, .slice A0_1 l0_1.length c0_1]] rfl (by (try simp only [List.map_toArray, List.map_cons, List.map_nil]); first | done | rfl) ?_; (with_reducible refine (impl_IsBraid.calls k a0_0 _ _ l0_1 _ _ ?side1 ?side2 A1.out).mono ?_); (case side1 => repeat (first | exact (Kd.C_below HRA.out HB2.out) | (with_reducible refine Kd.C_alloc ?_ _) | (with_reducible refine Kd.C_drewN ?_ _) | (with_reducible refine Kd.C_drew ?_))); (case side2 => exact HC0.out); rintro e wi ⟨rfl, hb⟩; refine ⟨_, rfl, ?_⟩; have n_ := Aside0.mk (below_step (by repeat (first | (with_reducible first | exact HB2.out | apply below_alloc | apply pw_below_drewN | apply below_drew1) | exact HB2.out)) hb); clear HB2; have HB2 := n_; clear n_; clear hb; (try clear hzgb_0); have hzgb_0 := (HB2.out.cell (World.block_lt_of_cell? wt _ HCB0.out)).trans HCB0.out; (try clear hzgb_1); have hzgb_1 := (HB2.out.cell (World.block_lt_of_cell? wt _ HCB1.out)).trans HCB1.out; (try clear hzq); have hzq := (HB2.out.cell (World.block_lt_of_cell? wt _ HCq.out)).trans HCq.out; (try clear hzt); have hzt := (HB2.out.cell (World.block_lt_of_cell? wt _ HCt.out)).trans HCt.out) | (go_at_call 24; refine calls_of_args (args' := #[.int .i64 a1]) (by (try simp only [List.map_toArray, List.map_cons, List.map_nil]); first | done | rfl) ?_; (with_reducible refine (impl_isUnit.calls a1 _ _ A2.out).mono ?_); rintro e wi ⟨rfl, ⟨nd, rfl⟩⟩; generalize hq_ : World.drewN _ nd = wj; have n_ := Aside0.mk (ar_below_at hq_ HB2.out); clear HB2; have HB2 := n_; clear n_; clear hq_; (try clear hzgb_0); have hzgb_0 := (HB2.out.cell (World.block_lt_of_cell? wt _ HCB0.out)).trans HCB0.out; (try clear hzgb_1); have hzgb_1 := (HB2.out.cell (World.block_lt_of_cell? wt _ HCB1.out)).trans HCB1.out; (try clear hzq); have hzq := (HB2.out.cell (World.block_lt_of_cell? wt _ HCq.out)).trans HCq.out; (try clear hzt); have hzt := (HB2.out.cell (World.block_lt_of_cell? wt _ HCt.out)).trans HCt.out) | (go_at_call 24; refine calls_of_args (args' := #[.int .i64 a2]) (by (try simp only [List.map_toArray, List.map_cons, List.map_nil]); first | done | rfl) ?_; (with_reducible refine (impl_isUnit.calls a2 _ _ A3.out).mono ?_); rintro e wi ⟨rfl, ⟨nd, rfl⟩⟩; generalize hq_ : World.drewN _ nd = wj; have n_ := Aside0.mk (ar_below_at hq_ HB2.out); clear HB2; have HB2 := n_; clear n_; clear hq_; (try clear hzgb_0); have hzgb_0 := (HB2.out.cell (World.block_lt_of_cell? wt _ HCB0.out)).trans HCB0.out; (try clear hzgb_1); have hzgb_1 := (HB2.out.cell (World.block_lt_of_cell? wt _ HCB1.out)).trans HCB1.out; (try clear hzq); have hzq := (HB2.out.cell (World.block_lt_of_cell? wt _ HCq.out)).trans HCq.out; (try clear hzt); have hzt := (HB2.out.cell (World.block_lt_of_cell? wt _ HCt.out)).trans HCt.out))
        go_ret2
        exact ⟨_, rfl, Kd.S_nil _ _ _ _ _, below_step HB.out (by repeat (first | (with_reducible first | exact HB2.out | apply below_alloc | apply pw_below_drewN | apply below_drew1) | exact HB2.out))⟩
      | true =>
        simp only [if_true] at H3
        by_cases c8 : a0_0 ≤ 8
        case neg => rw [if_neg c8] at H3; cases H3
        rw [if_pos c8] at H3
        obtain ⟨R, A4_, H4⟩ := Option.bind_eq_some_iff.mp H3
        clear H3
        rw [Option.some.injEq, Prod.mk.injEq] at H4
        obtain ⟨rfl, rfl⟩ := H4
        have A4 := Aside0.mk A4_
        clear A4_
        obtain ⟨mz, hmz⟩ : ∃ x : Int, ((kr.PF a0_0.toNat).length : Int) = x := ⟨_, rfl⟩
        have hMq : wrap64 (Int.tdiv (wrap64 (a0_0 * wrap64 (a0_0 - 1))) 2) = mz := by
          have h1_ := kr.PF_len a0_0.toNat (by omega)
          rw [← hmz, h1_]
          have h2_ : ∀ x : Nat, 2 ≤ x → x ≤ 8 → wrap64 (Int.tdiv (wrap64 ((x : Int) * wrap64 ((x : Int) - 1))) 2) = ((x * (x - 1) / 2 : Nat) : Int) := by
            intro x h3_ h4_
            have h5_ : ∀ x ∈ List.range 9, 2 ≤ x → wrap64 (Int.tdiv (wrap64 ((x : Int) * wrap64 ((x : Int) - 1))) 2) = ((x * (x - 1) / 2 : Nat) : Int) := by decide +kernel
            exact h5_ x (by simp; omega) h3_
          have h6_ := h2_ a0_0.toNat (by omega) (by omega)
          rw [show ((a0_0.toNat : Nat) : Int) = a0_0 by omega] at h6_
          exact h6_
        have hMq2 : wrap64 (Int.tdiv (wrap64 (a0_0 * (a0_0 - 1))) 2) = mz := by rw [← hMq, show wrap64 (a0_0 - 1) = a0_0 - 1 by unfold wrap64; omega]
        rw [hmz] at A4
        go_enter Try.func18, Try.ntmps18
        go_wp2_with (first | ((with_reducible refine gate_dst (N := 3) rfl ?_); refine box_event ?hg (N := 3) ?hd (cs := #[.int .i64 a0_0, .slice A0_1 l0_1.length c0_1]) (t := 29) ?hr ?_; (case hd => rfl); (case hg => rfl); (case hr => first | (go_simp; done) | (go_simp; rfl)); intro gb hg w1 hbox hb; have n_ := Aside0.mk (below_step (by repeat (first | (with_reducible first | exact HB.out | apply below_alloc | apply pw_below_drewN | apply below_drew1) | exact HB.out)) hb); clear HB; have HB := n_; clear n_; have HCB0 := Aside0.mk ((blk_cell hbox 0).trans rfl); have HCB1 := Aside0.mk ((blk_cell hbox 1).trans rfl); have HB2 := Aside0.mk (Below.refl w1.heap.size w1); have HRA := Aside0.mk (Kd.C_below HR0.out HB.out); clear hg hb; have hzgb_0 := HCB0.out; have hzgb_1 := HCB1.out; clear hbox) | ((with_reducible refine gate_dst (N := 4) rfl ?_); refine box_event ?hg (N := 4) ?hd (cs := #[.int .i64 a1]) (t := 2) ?hr ?_; (case hd => rfl); (case hg => rfl); (case hr => first | (go_simp; done) | (go_simp; rfl)); intro gq hg wq hbox hb; have n_ := Aside0.mk (below_step (by repeat (first | (with_reducible first | exact HB.out | apply below_alloc | apply pw_below_drewN | apply below_drew1) | exact HB.out)) hb); clear HB; have HB := n_; clear n_; have n_ := Aside0.mk ((hb.cell (World.block_lt_of_cell? w1 _ HCB0.out)).trans HCB0.out); clear HCB0; have HCB0 := n_; clear n_; (try clear hzgb_0); have hzgb_0 := HCB0.out; have n_ := Aside0.mk ((hb.cell (World.block_lt_of_cell? w1 _ HCB1.out)).trans HCB1.out); clear HCB1; have HCB1 := n_; clear n_; (try clear hzgb_1); have hzgb_1 := HCB1.out; have HCq := Aside0.mk ((blk_cell hbox 0).trans rfl); have hzq := HCq.out; clear HB2 HRA; have HB2 := Aside0.mk (Below.refl wq.heap.size wq); have HRA := Aside0.mk (Kd.C_below HR0.out HB.out); clear hg hb hbox) | ((with_reducible refine gate_dst (N := 5) rfl ?_); refine box_event ?hg (N := 5) ?hd (cs := #[.int .i64 a2]) (t := 2) ?hr ?_; (case hd => rfl); (case hg => rfl); (case hr => first | (go_simp; done) | (go_simp; rfl)); intro gt hg wt hbox hb; have n_ := Aside0.mk (below_step (by repeat (first | (with_reducible first | exact HB.out | apply below_alloc | apply pw_below_drewN | apply below_drew1) | exact HB.out)) hb); clear HB; have HB := n_; clear n_; have n_ := Aside0.mk ((hb.cell (World.block_lt_of_cell? wq _ HCB0.out)).trans HCB0.out); clear HCB0; have HCB0 := n_; clear n_; (try clear hzgb_0); have hzgb_0 := HCB0.out; have n_ := Aside0.mk ((hb.cell (World.block_lt_of_cell? wq _ HCB1.out)).trans HCB1.out); clear HCB1; have HCB1 := n_; clear n_; (try clear hzgb_1); have hzgb_1 := HCB1.out; have n_ := Aside0.mk ((hb.cell (World.block_lt_of_cell? wq _ HCq.out)).trans HCq.out); clear HCq; have HCq := n_; clear n_; (try clear hzq); have hzq := HCq.out; have HCt := Aside0.mk ((blk_cell hbox 0).trans rfl); have hzt := HCt.out; clear HB2 HRA; have HB2 := Aside0.mk (Below.refl wt.heap.size wt); have HRA := Aside0.mk (Kd.C_below HR0.out HB.out); clear hg hb hbox) | ((with_reducible refine gate_callee (f := 23) rfl ?_); refine goesL_ (some 11) rfl rfl Try.func23 (by kernel_rfl) rfl #[.agg #[.int .i64 a0_0, .slice A0_1 l0_1.length c0_1]] rfl (by (try simp only [List.map_toArray, List.map_cons, List.map_nil]); first | done | rfl) ?_; (with_reducible refine (impl_IsBraid.calls k a0_0 _ _ l0_1 _ _ ?side1 ?side2 A1.out).mono ?_); (case side1 => repeat (first | exact (Kd.C_below HRA.out HB2.out) | (with_reducible refine Kd.C_alloc ?_ _) | (with_reducible refine Kd.C_drewN ?_ _) | (with_reducible refine Kd.C_drew ?_))); (case side2 => exact HC0.out); rintro e wi ⟨rfl, hb⟩; refine ⟨_, rfl, ?_⟩; have n_ := Aside0.mk (below_step (by repeat (first | (with_reducible first | exact HB2.out | apply below_alloc | apply pw_below_drewN | apply below_drew1) | exact HB2.out)) hb); clear HB2; have HB2 := n_; clear n_; clear hb; (try clear hzgb_0); have hzgb_0 := (HB2.out.cell (World.block_lt_of_cell? wt _ HCB0.out)).trans HCB0.out; (try clear hzgb_1); have hzgb_1 := (HB2.out.cell (World.block_lt_of_cell? wt _ HCB1.out)).trans HCB1.out; (try clear hzq); have hzq := (HB2.out.cell (World.block_lt_of_cell? wt _ HCq.out)).trans HCq.out; (try clear hzt); have hzt := (HB2.out.cell (World.block_lt_of_cell? wt _ HCt.out)).trans HCt.out) | (go_at_call 24; refine calls_of_args (args' := #[.int .i64 a1]) (by (try simp only [List.map_toArray, List.map_cons, List.map_nil]); first | done | rfl) ?_; (with_reducible refine (impl_isUnit.calls a1 _ _ A2.out).mono ?_); rintro e wi ⟨rfl, ⟨nd, rfl⟩⟩; generalize hq_ : World.drewN _ nd = wj; have n_ := Aside0.mk (ar_below_at hq_ HB2.out); clear HB2; have HB2 := n_; clear n_; clear hq_; (try clear hzgb_0); have hzgb_0 := (HB2.out.cell (World.block_lt_of_cell? wt _ HCB0.out)).trans HCB0.out; (try clear hzgb_1); have hzgb_1 := (HB2.out.cell (World.block_lt_of_cell? wt _ HCB1.out)).trans HCB1.out; (try clear hzq); have hzq := (HB2.out.cell (World.block_lt_of_cell? wt _ HCq.out)).trans HCq.out; (try clear hzt); have hzt := (HB2.out.cell (World.block_lt_of_cell? wt _ HCt.out)).trans HCt.out) | (go_at_call 24; refine calls_of_args (args' := #[.int .i64 a2]) (by (try simp only [List.map_toArray, List.map_cons, List.map_nil]); first | done | rfl) ?_; (with_reducible refine (impl_isUnit.calls a2 _ _ A3.out).mono ?_); rintro e wi ⟨rfl, ⟨nd, rfl⟩⟩; generalize hq_ : World.drewN _ nd = wj; have n_ := Aside0.mk (ar_below_at hq_ HB2.out); clear HB2; have HB2 := n_; clear n_; clear hq_; (try clear hzgb_0); have hzgb_0 := (HB2.out.cell (World.block_lt_of_cell? wt _ HCB0.out)).trans HCB0.out; (try clear hzgb_1); have hzgb_1 := (HB2.out.cell (World.block_lt_of_cell? wt _ HCB1.out)).trans HCB1.out; (try clear hzq); have hzq := (HB2.out.cell (World.block_lt_of_cell? wt _ HCq.out)).trans HCq.out; (try clear hzt); have hzt := (HB2.out.cell (World.block_lt_of_cell? wt _ HCt.out)).trans HCt.out) | ((with_reducible refine gate_dst (N := 8) rfl ?_); refine box_event ?hg (N := 8) ?hd (cs := #[.int .i64 0]) (t := 2) ?hr ?_; (case hd => rfl); (case hg => rfl); (case hr => first | (go_simp; done) | (go_simp; rfl)); intro gn hg w8 hbox hb; have HGN : Aside0 (wt.heap.size ≤ gn) := ⟨by rw [hg]; exact below_size (by repeat (first | (with_reducible first | exact HB2.out | apply below_alloc | apply pw_below_drewN | apply below_drew1) | exact HB2.out))⟩; have n_ := Aside0.mk (below_step (by repeat (first | (with_reducible first | exact HB2.out | apply below_alloc | apply pw_below_drewN | apply below_drew1) | exact HB2.out)) hb); clear HB2; have HB2 := n_; clear n_; have PN := Aside0.mk hbox; clear hg hb hbox; (try clear hzgb_0); have hzgb_0 := (HB2.out.cell (World.block_lt_of_cell? wt _ HCB0.out)).trans HCB0.out; (try clear hzgb_1); have hzgb_1 := (HB2.out.cell (World.block_lt_of_cell? wt _ HCB1.out)).trans HCB1.out; (try clear hzq); have hzq := (HB2.out.cell (World.block_lt_of_cell? wt _ HCq.out)).trans HCq.out; (try clear hzt); have hzt := (HB2.out.cell (World.block_lt_of_cell? wt _ HCt.out)).trans HCt.out; have hzgn := (blk_cell PN.out 0).trans rfl; have hfgn := blk_frozen PN.out 0) | ((with_reducible refine gate_store (t := 2) (p := 8) rfl ?_); (try clear hzgb_0 hzgb_1 hzq hzt); clear hzgn hfgn; (first | (rw [drewN_self w8]; generalize hq_ : World.drewN w8 _ = w9) | (rw [drew_self w8]; generalize hq1_ : World.drew w8 = w9; have hq_ : World.drewN w8 1 = w9 := hq1_; clear hq1_) | (rw [show w8 = World.drewN w8 0 from rfl]; generalize hq_ : World.drewN w8 0 = w9)); have n_ := Aside0.mk (ar_below_at hq_ HB2.out); clear HB2; have HB2 := n_; clear n_; have n_ := Aside0.mk (ar_blk_at hq_ PN.out); clear PN; have PN := n_; clear n_; clear hq_; (try clear hzgb_0); have hzgb_0 := (HB2.out.cell (World.block_lt_of_cell? wt _ HCB0.out)).trans HCB0.out; (try clear hzgb_1); have hzgb_1 := (HB2.out.cell (World.block_lt_of_cell? wt _ HCB1.out)).trans HCB1.out; (try clear hzq); have hzq := (HB2.out.cell (World.block_lt_of_cell? wt _ HCq.out)).trans HCq.out; (try clear hzt); have hzt := (HB2.out.cell (World.block_lt_of_cell? wt _ HCt.out)).trans HCt.out; have hzgn := (blk_cell PN.out 0).trans rfl; have hfgn := blk_frozen PN.out 0; refine store_event (t := 2) (p := 8) (v := ?vo_n) (w1 := (w9.setCell ⟨gn, 0, none⟩ (.int .i64 a0_0 : Value))) ?hg ?ho ?hn ?hr ?_; (case ho => rfl); (case hg => rfl); (case hn => rfl); (case hr => first | (go_simp; done) | (go_simp; rfl)); intro w10 hw; have n1_ : Aside0 (w10.heap[gn]? = some (.cells #[(.int .i64 a0_0 : Value)] 2 (0, 0))) := ⟨by rw [hw]; exact (blk_set PN.out 0 (.int .i64 a0_0 : Value)).trans rfl⟩; have n2_ : Aside0 (Below wt.heap.size wt w10) := ⟨by rw [hw]; exact below_set HB2.out HGN.out⟩; clear PN HB2 hzgn hfgn hw; have PN := n1_; have HB2 := n2_; clear n1_ n2_; (try clear hzgb_0); have hzgb_0 := (HB2.out.cell (World.block_lt_of_cell? wt _ HCB0.out)).trans HCB0.out; (try clear hzgb_1); have hzgb_1 := (HB2.out.cell (World.block_lt_of_cell? wt _ HCB1.out)).trans HCB1.out; (try clear hzq); have hzq := (HB2.out.cell (World.block_lt_of_cell? wt _ HCq.out)).trans HCq.out; (try clear hzt); have hzt := (HB2.out.cell (World.block_lt_of_cell? wt _ HCt.out)).trans HCt.out; have hzgn := (blk_cell PN.out 0).trans rfl) | ((with_reducible refine gate_callee (f := 25) rfl ?_); refine goesL_ (some 36) rfl rfl Try.func25 (by kernel_rfl) rfl #[.agg #[.int .i64 a0_0, .slice A0_1 l0_1.length c0_1], .int .i64 mz, .func (.func 35) #[] #[.pointer (some ⟨gn, 0, none⟩), .pointer (some ⟨gq, 0, none⟩), .pointer (some ⟨gt, 0, none⟩)]] rfl (by (try simp only [List.map_toArray, List.map_cons, List.map_nil]); first | done | rfl | (rw [← hMq2]; rfl) | (rw [← hMq]; rfl)) ?_; (refine (product_calls k mz a0_0 A0_1 c0_1 l0_1 35 _ #[.pointer (some ⟨gn, 0, none⟩), .pointer (some ⟨gq, 0, none⟩), .pointer (some ⟨gt, 0, none⟩)] (impl_KrammerMatrix.base k a0_0 a1 a2) R _ Try.func35 (by kernel_rfl) rfl ?side1 ?side2 (kr_call k a0_0 a1 a2 gn gq gt _ hzgn hzq hzt) A4.out).mono ?_); (case side1 => repeat (first | exact (Kd.C_below HRA.out HB2.out) | (with_reducible refine Kd.C_alloc ?_ _) | (with_reducible refine Kd.C_drewN ?_ _) | (with_reducible refine Kd.C_drew ?_))); (case side2 => exact HC0.out); rintro e wi ⟨v36, rfl, ho, hb⟩; refine ⟨_, rfl, ?_⟩; have SA := Aside0.mk (Kd.S_lower ho (below_size (by repeat (first | (with_reducible first | exact HB2.out | apply below_alloc | apply pw_below_drewN | apply below_drew1) | exact HB2.out)))); have n_ := Aside0.mk (below_step (by repeat (first | (with_reducible first | exact HB2.out | apply below_alloc | apply pw_below_drewN | apply below_drew1) | exact HB2.out)) hb); clear HB2; have HB2 := n_; clear n_; clear hb ho))
        go_ret2
        exact ⟨_, rfl, Kd.S_lower (by (with_reducible repeat (first | apply Kd.S_alloc | apply Kd.S_drewN | apply Kd.S_drew)); exact SA.out) (below_size HB.out), below_step HB.out (by repeat (first | (with_reducible first | exact HB2.out | apply below_alloc | apply pw_below_drewN | apply below_drew1) | exact HB2.out))⟩


end Go.Proofs.Ytifmdgffimckgaa.MFnExactKrammerTrace
