/- Expansions of free words: the plain functions. -/
import Derived.Test.YtcbomfkimohlfaaLibCombM
set_option linter.unusedVariables false
set_option linter.unusedSimpArgs false
namespace Go.Proofs.Ytcbomfkimohlfaa.Lib
open Go.RowKit Go.Proofs.YtcbomfkimohlfaaW.PrintWords
/-! ### Letters of combs stay small -/
def In_ (m : Int) (w : List Int) : Prop := ∀ y ∈ w, y ≠ 0 ∧ -m ≤ y ∧ y ≤ m
theorem In_.app {m : Int} {u v : List Int} (hu : In_ m u) (hv : In_ m v) : In_ m (u ++ v) := fun y hy => by
  rcases List.mem_append.1 hy with h | h
  · exact hu y h
  · exact hv y h
theorem In_.one {m x : Int} (h : x ≠ 0 ∧ -m ≤ x ∧ x ≤ m) : In_ m [x] := fun y hy => by rw [List.mem_singleton.1 hy]; exact h
theorem In_.nil {m : Int} : In_ m [] := fun y hy => by simp at hy
theorem In_.back {m : Int} {w : List Int} (h : In_ m w) : In_ m (back w) := fun x hx => by have := h _ (back_mem hx); omega
theorem In_.push {m : Int} {u v : List Int} (hu : In_ m u) (hv : In_ m v) : In_ m (pushAll u v) := fun y hy => by
  rcases pushAll_mem hy with h | h
  · exact hu y h
  · exact hv y h
theorem leadW_le {m letter x : Int} (hl : letter ≠ 0 ∧ -(m - 1) ≤ letter ∧ letter ≤ m - 1) (hx : x ≠ 0 ∧ -m ≤ x ∧ x ≤ m) : In_ m (leadW letter x) := by
  have h1 := absI_pos hl.1
  have h2 := absI_bd (x := letter) (b := m - 1) hl.2
  unfold leadW
  intro y hy
  split at hy
  · simp at hy; omega
  · split at hy
    · simp at hy; omega
    · split at hy
      · simp at hy; omega
      · split at hy
        · simp at hy; omega
        · simp at hy; omega
theorem leadS_le {m letter x : Int} (hl : letter ≠ 0 ∧ -(m - 1) ≤ letter ∧ letter ≤ m - 1) (hx : x ≠ 0 ∧ -m ≤ x ∧ x ≤ m) : In_ m (leadS letter x) := by
  have h1 := absI_pos hx.1
  have h2 := absI_bd (x := x) (b := m) hx.2
  unfold leadS
  split
  · exact (leadW_le hl ⟨by omega, by omega, by omega⟩).back
  · exact leadW_le hl ⟨by omega, by omega, by omega⟩
theorem led_le {m letter : Int} (hl : letter ≠ 0 ∧ -(m - 1) ≤ letter ∧ letter ≤ m - 1) {w : List Int} (hw : In_ m w) : ∀ {acc : List Int}, In_ m acc → In_ m (w.foldl (fun acc x => pushAll acc (leadS letter x)) acc) := by
  induction w with
  | nil => intro acc ha; exact ha
  | cons x r ih => intro acc ha; exact ih (fun y hy => hw y (by simp [hy])) (ha.push (leadS_le hl (hw x (by simp))))
theorem ledTo_le {m : Int} {rest : List Int} (hr : In_ (m - 1) rest) : ∀ (d : Nat) {w r : List Int}, d ≤ rest.length → In_ m w → ledTo rest d w = some r → In_ m r
  | 0, w, r, _, hw, e => by simp only [ledTo, Option.some.injEq] at e; subst e; exact hw
  | d + 1, w, r, hd, hw, e => by
    simp only [ledTo] at e
    split at e
    · cases e
    · exact ledTo_le hr d (by omega) (led_le (hr _ (rd_mem rest d (by omega))) hw In_.nil) e
theorem stepW_le {m x : Int} {w : List Int} {p : Int} (hx : x ≠ 0 ∧ -m ≤ x ∧ x ≤ m) (h0 : 0 ≤ p) (hp : p ≤ m) (hw : In_ (m - 1) w) : In_ (m - 1) (stepW x w p) := by
  have h1 := absI_pos hx.1
  have e := absI_eq x
  unfold stepW
  split
  · exact hw.app (In_.one (by split at e <;> omega))
  · split
    · refine hw.app (In_.one ?_)
      unfold sgnI
      split <;> split at e <;> omega
    · exact hw
theorem stepP_le {m x p : Int} (hx : x ≠ 0 ∧ -m ≤ x ∧ x ≤ m) (h0 : 0 ≤ p) (hp : p ≤ m) : 0 ≤ stepP x p ∧ stepP x p ≤ m := by
  have h1 := absI_pos hx.1
  have h2 := absI_bd (x := x) (b := m) hx.2
  unfold stepP
  split
  · omega
  · split <;> omega
theorem stepA_le {m x p : Int} (hx : x ≠ 0 ∧ -m ≤ x ∧ x ≤ m) (h0 : 0 ≤ p) (hp : p ≤ m) : -m ≤ stepA x p ∧ stepA x p ≤ m := by
  have h1 := absI_pos hx.1
  have h2 := absI_bd (x := x) (b := m) hx.2
  unfold stepA
  split
  · omega
  · split <;> omega
theorem toothGo_le {m : Int} (l : List Int) : ∀ {f w : List Int} {p : Int} {r s : List Int}, In_ m l → In_ (m - 1) w → In_ m f → 0 ≤ p → p ≤ m → toothGo l f w p = some (r, s) → In_ m r ∧ In_ (m - 1) s := by
  induction l with
  | nil => intro f w p r s _ hw hf _ _ e; simp only [toothGo, Option.some.injEq, Prod.mk.injEq] at e; obtain ⟨rfl, rfl⟩ := e; exact ⟨hf, hw⟩
  | cons x l ih =>
    intro f w p r s hl hw hf h0 hp e
    have hx := hl x (by simp)
    have hl' : In_ m l := fun y hy => hl y (by simp [hy])
    have hw' := stepW_le hx h0 hp hw
    have hp' := stepP_le hx h0 hp
    have ha' := stepA_le hx h0 hp
    simp only [toothGo] at e
    split at e
    · exact ih hl' hw' hf hp'.1 hp'.2 e
    · rename_i hne
      split at e
      · cases e
      · rename_i own ho
        split at e
        · cases e
        · exact ih hl' hw' (hf.push (ledTo_le hw' _ (Nat.le_refl _) (In_.one ⟨hne, ha'.1, ha'.2⟩) ho)) hp'.1 hp'.2 e
theorem combGo'_le : ∀ (j : Nat) {l : List Int} {acc r : List (List Int)}, In_ (j : Int) l → combGo' j l acc = some r → ∃ t, r = acc ++ t ∧ t.length = j ∧ ∀ (i : Nat) (q : List Int), t[i]? = some q → In_ ((j : Int) - (i : Int)) q
  | 0, l, acc, r, _, e => by simp only [combGo', Option.some.injEq] at e; exact ⟨[], by rw [← e]; simp, rfl, fun i q h => by simp at h⟩
  | j + 1, l, acc, r, hl, e => by
    simp only [combGo'] at e
    split at e
    · cases e
    · rename_i t ht
      have h1 := toothGo_le l (r := t.1) (s := t.2) hl (In_.nil (m := ((j + 1 : Nat) : Int) - 1)) In_.nil (by omega) (Int.le_refl _) ht
      obtain ⟨u, hu, hul, hui⟩ := combGo'_le j (l := t.2) (acc := acc ++ [t.1]) (r := r) (fun y hy => by have := h1.2 y hy; omega) e
      refine ⟨t.1 :: u, by rw [hu]; simp, by simp [hul], fun i q h => ?_⟩
      cases i with
      | zero =>
        simp only [List.getElem?_cons_zero, Option.some.injEq] at h
        subst h
        exact fun y hy => by have := h1.1 y hy; omega
      | succ i =>
        simp only [List.getElem?_cons_succ] at h
        exact fun y hy => by have := hui i q h y hy; omega
theorem comb_tooth {n j : Int} {l : List Int} {r : List (List Int)} (h : isBraidB n l = true) (hj : 1 ≤ j ∧ j ≤ n - 1) (e : combGo' (n - 1).toNat l [] = some r) : (n - 1 - j).toNat < r.length ∧ In_ j (rdl r (n - 1 - j)) ∧ (rdl r (n - 1 - j)).length ≤ 400 := by
  obtain ⟨hn, _, hx⟩ := isBraidB_iff.1 h
  obtain ⟨t, ht, htl, hti⟩ := combGo'_le _ (fun y hy => by have := hx y hy; omega) e
  simp only [List.nil_append] at ht
  subst ht
  have h2 := (combGo'_ok _ (by omega) (braid_letters h) (by simp) e).2
  have hlt : (n - 1 - j).toNat < r.length := by omega
  have e2 : rdl r (n - 1 - j) = r[(n - 1 - j).toNat] := by simp [rdl, List.getD_eq_getElem?_getD, hlt]
  refine ⟨hlt, ?_, ?_⟩
  · have := hti (n - 1 - j).toNat _ (List.getElem?_eq_getElem hlt)
    rw [e2]
    exact fun y hy => by have := this y hy; omega
  · rw [e2]; exact h2 _ (List.getElem_mem hlt)
/-! ### Expansions -/
def exRow0 (out : List (List Int)) (first : List Int) (b s : Int) (a : Nat) : List Int := (rdl out (a : Int)).set b.toNat (wrap64 (rd (rdl out (a : Int)) b + wrap64 (s * rd first (a : Int))))
def exBump (b : Int) (r : List Int) : List Int := r.set b.toNat (wrap64 (rd r b + 1))
def exRow1 (out : List (List Int)) (first : List Int) (b s : Int) (a : Nat) : List Int := if (a : Int) = b ∧ s < 0 then exBump b (exRow0 out first b s a) else exRow0 out first b s a
def exUpd (R : Nat → List Int) (n : Nat) : List (List Int) := (List.range n).map R
def exStep (st : List (List Int) × List Int) (x : Int) : List (List Int) × List Int := (exUpd (exRow1 st.1 st.2 (absI x - 1) (sgnI x)) st.1.length, st.2.set (absI x - 1).toNat (wrap64 (rd st.2 (absI x - 1) + sgnI x)))
def expW (j : Nat) (w : List Int) : List (List Int) := (w.foldl exStep (List.replicate j (List.replicate j 0), List.replicate j 0)).1
theorem exUpd_length (R : Nat → List Int) (n : Nat) : (exUpd R n).length = n := by simp [exUpd]
theorem exUpd_at (R : Nat → List Int) (n a : Nat) (h : a < n) : rdl (exUpd R n) (a : Int) = R a := by simp [exUpd, rdl, List.getD_eq_getElem?_getD, h]
theorem mix_length (R : Nat → List Int) (out : List (List Int)) (a : Nat) (h : a ≤ out.length) : ((exUpd R out.length).take a ++ out.drop a).length = out.length := by simp [exUpd]; omega
theorem mix_rdl (R : Nat → List Int) (out : List (List Int)) (a : Nat) (h : a < out.length) : rdl ((exUpd R out.length).take a ++ out.drop a) (a : Int) = rdl out (a : Int) := by
  have : ((exUpd R out.length).take a).length = a := by simp [exUpd]; omega
  simp only [rdl, List.getD_eq_getElem?_getD, Int.toNat_natCast]
  rw [List.getElem?_append_right (by omega), this]
  simp
theorem mix_set (R : Nat → List Int) (out : List (List Int)) (a : Nat) (h : a < out.length) : ((exUpd R out.length).take a ++ out.drop a).set a (R a) = (exUpd R out.length).take (a + 1) ++ out.drop (a + 1) := by
  have hl : ((exUpd R out.length).take a).length = a := by simp [exUpd]; omega
  rw [List.set_append_right _ _ (by omega), hl, Nat.sub_self, List.drop_eq_getElem_cons h, List.set_cons_zero, List.take_add_one]
  simp [exUpd, h]
theorem rdl_set (xs : List (List Int)) (a : Nat) (r : List Int) (h : a < xs.length) : rdl (xs.set a r) (a : Int) = r := by simp [rdl, List.getD_eq_getElem?_getD, h]
theorem exRow0_length (out : List (List Int)) (first : List Int) (b s : Int) (a : Nat) : (exRow0 out first b s a).length = (rdl out (a : Int)).length := by simp [exRow0]
theorem exRow1_length (out : List (List Int)) (first : List Int) (b s : Int) (a : Nat) : (exRow1 out first b s a).length = (rdl out (a : Int)).length := by
  unfold exRow1
  split
  · simp [exBump, exRow0_length]
  · exact exRow0_length _ _ _ _ _
theorem exUpd_bump (out : List (List Int)) (first : List Int) (b s : Int) (n : Nat) (hb : 0 ≤ b ∧ b < (n : Int)) (hs : s < 0) : (exUpd (exRow0 out first b s) n).set b.toNat (exBump b (rdl (exUpd (exRow0 out first b s) n) b)) = exUpd (exRow1 out first b s) n := by
  obtain ⟨c, rfl⟩ : ∃ c : Nat, b = (c : Int) := ⟨b.toNat, by omega⟩
  rw [exUpd_at _ _ _ (by omega), Int.toNat_natCast]
  refine List.ext_getElem (by simp [exUpd]) fun i h1 h2 => ?_
  simp only [exUpd, List.length_set, List.length_map, List.length_range] at h1
  rw [List.getElem_set]
  simp only [exUpd, List.getElem_map, List.getElem_range, exRow1]
  by_cases h : c = i
  · subst h; simp [hs]
  · have : ¬ (i : Int) = (c : Int) := by omega
    simp [h, this]
theorem exUpd_none (out : List (List Int)) (first : List Int) (b s : Int) (n : Nat) (hs : ¬ s < 0) : exUpd (exRow0 out first b s) n = exUpd (exRow1 out first b s) n := by
  unfold exUpd exRow1
  simp [hs]
def Sq (j : Nat) (st : List (List Int) × List Int) : Prop := st.1.length = j ∧ (∀ q ∈ st.1, q.length = j) ∧ st.2.length = j
theorem exStep_sq {j : Nat} {st : List (List Int) × List Int} (h : Sq j st) (x : Int) : Sq j (exStep st x) := by
  refine ⟨by simp [exStep, exUpd, h.1], fun q hq => ?_, by simp [exStep, h.2.2]⟩
  simp only [exStep, exUpd, List.mem_map, List.mem_range] at hq
  obtain ⟨a, ha, rfl⟩ := hq
  rw [exRow1_length]
  exact h.2.1 _ (rdl_mem _ a ha)
theorem exFold_sq {j : Nat} (w : List Int) : ∀ {st : List (List Int) × List Int}, Sq j st → Sq j (w.foldl exStep st) := by
  induction w with
  | nil => intro st h; exact h
  | cons x w ih => intro st h; exact ih (exStep_sq h x)
theorem zero_sq (j : Nat) : Sq j (List.replicate j (List.replicate j 0), List.replicate j 0) := ⟨by simp, fun q hq => by rw [(List.mem_replicate.1 hq).2]; simp, by simp⟩
theorem expW_bound (j : Nat) (w : List Int) : (expW j w).length = j ∧ ∀ q ∈ expW j w, q.length = j := ⟨(exFold_sq w (zero_sq j)).1, (exFold_sq w (zero_sq j)).2.1⟩
def expM (n : Int) (l : List Int) (j : Int) : List (List Int) × Int :=
  if isBraidB n l = true then (if 1 ≤ j ∧ j ≤ n - 1 then (if (combM n l).2 = 0 then (expW j.toNat (rdl (combM n l).1 (n - 1 - j)), 0) else ([], (combM n l).2)) else ([], 2)) else ([], 1)
theorem expM_bound (n : Int) (l : List Int) (j : Int) : (expM n l j).1.length ≤ 7 ∧ ∀ q ∈ (expM n l j).1, q.length ≤ 7 := by
  unfold expM
  split
  · rename_i h
    obtain ⟨hn, _, _⟩ := isBraidB_iff.1 h
    split
    · rename_i hj
      split
      · have := expW_bound j.toNat (rdl (combM n l).1 (n - 1 - j))
        exact ⟨by simp only; omega, fun q hq => by have := this.2 q hq; omega⟩
      · simp
    · simp
  · simp
theorem combM_some {n : Int} {l : List Int} (h : isBraidB n l = true) (e : (combM n l).2 = 0) : combGo' (n - 1).toNat l [] = some (combM n l).1 := by
  unfold combM at e ⊢
  by_cases hp : pureM n l = 0
  · rw [if_pos hp] at e ⊢
    cases e2 : combGo' (n - 1).toNat l [] with
    | none => rw [e2] at e; simp at e
    | some r => simp
  · rw [if_neg hp] at e; exact absurd e hp
end Go.Proofs.Ytcbomfkimohlfaa.Lib
