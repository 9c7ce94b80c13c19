/- Cycles of a list of places, and a sort by insertion. -/
import Derived.Test.YtmmoimofjomnlaaLibPure
set_option linter.unusedVariables false
set_option linter.unusedSimpArgs false
namespace Go.Proofs.Ytmmoimofjomnlaa.Lib
open Go.RowKit Go.Proofs.YtmmoimofjomnlaaW.PrintWords
theorem rd_set_eq (xs : List Int) (i : Nat) (v : Int) (h : i < xs.length) : rd (xs.set i v) (i : Int) = v := by simp [rd, List.getD_eq_getElem?_getD, h]
theorem rd_set_ne (xs : List Int) (i a : Nat) (v : Int) (h : a ≠ i) : rd (xs.set i v) (a : Int) = rd xs (a : Int) := by
  simp [rd, List.getD_eq_getElem?_getD, List.getElem?_set, Ne.symm h]
theorem rd_get (xs : List Int) (i : Nat) (h : i < xs.length) : rd xs (i : Int) = xs[i] := by simp [rd, List.getD_eq_getElem?_getD, h]
/-! ### Insertion -/
def insGo : Nat → List Int → List Int
  | 0, xs => xs
  | j + 1, xs => if rd xs ((j + 1 : Nat) : Int) < rd xs (j : Int) then insGo j ((xs.set (j + 1) (rd xs (j : Int))).set j (rd xs ((j + 1 : Nat) : Int))) else xs
def sortGo : Nat → Nat → List Int → List Int
  | 0, _, xs => xs
  | d + 1, i, xs => sortGo d (i + 1) (insGo i xs)
def sortI (xs : List Int) : List Int := sortGo (xs.length - 1) 1 xs
theorem insGo_length : ∀ (j : Nat) (xs : List Int), (insGo j xs).length = xs.length
  | 0, xs => rfl
  | j + 1, xs => by
    rw [insGo]
    split
    · rw [insGo_length j]; simp
    · rfl
theorem sortGo_length : ∀ (d i : Nat) (xs : List Int), (sortGo d i xs).length = xs.length
  | 0, _, xs => rfl
  | d + 1, i, xs => by rw [sortGo, sortGo_length d, insGo_length]
theorem sortI_length (xs : List Int) : (sortI xs).length = xs.length := sortGo_length _ _ _
theorem insGo_perm : ∀ (j : Nat) (xs : List Int), j < xs.length → (insGo j xs).Perm xs
  | 0, xs, _ => .refl _
  | j + 1, xs, h => by
    rw [insGo]
    split
    · refine (insGo_perm j _ (by simp; omega)).trans ?_
      rw [rd_get xs j (by omega), rd_get xs (j + 1) h]
      exact List.set_set_perm h (by omega)
    · exact .refl _
theorem sortGo_perm : ∀ (d i : Nat) (xs : List Int), i + d ≤ xs.length → (sortGo d i xs).Perm xs
  | 0, _, xs, _ => .refl _
  | d + 1, i, xs, h => by
    rw [sortGo]
    exact (sortGo_perm d (i + 1) _ (by rw [insGo_length]; omega)).trans (insGo_perm i xs (by omega))
def Srt (xs : List Int) (m : Nat) : Prop := ∀ a b : Nat, a < b → b < m → rd xs (a : Int) ≤ rd xs (b : Int)
theorem insGo_srt (i : Nat) : ∀ (j : Nat) (xs : List Int), j ≤ i → i < xs.length → (∀ a b : Nat, a < b → b ≤ i → a ≠ j → b ≠ j → rd xs (a : Int) ≤ rd xs (b : Int)) → (∀ b : Nat, j < b → b ≤ i → rd xs (j : Int) ≤ rd xs (b : Int)) → Srt (insGo j xs) (i + 1)
  | 0, xs, _, _, h1, h2 => by
    intro a b hab hb
    rw [insGo]
    by_cases h : a = 0
    · subst h; exact h2 b hab (by omega)
    · exact h1 a b hab (by omega) h (by omega)
  | j + 1, xs, hj, hi, h1, h2 => by
    rw [insGo]
    split
    · rename_i hlt
      have g1 : rd ((xs.set (j + 1) (rd xs (j : Int))).set j (rd xs ((j + 1 : Nat) : Int))) (j : Int) = rd xs ((j + 1 : Nat) : Int) := rd_set_eq _ _ _ (by simp; omega)
      have g2 : rd ((xs.set (j + 1) (rd xs (j : Int))).set j (rd xs ((j + 1 : Nat) : Int))) ((j + 1 : Nat) : Int) = rd xs (j : Int) := by rw [rd_set_ne _ _ _ _ (by omega), rd_set_eq _ _ _ (by omega)]
      have g3 : ∀ a : Nat, a ≠ j → a ≠ j + 1 → rd ((xs.set (j + 1) (rd xs (j : Int))).set j (rd xs ((j + 1 : Nat) : Int))) (a : Int) = rd xs (a : Int) := fun a ha hb => by rw [rd_set_ne _ _ _ _ ha, rd_set_ne _ _ _ _ hb]
      have g0 : ((xs.set (j + 1) (rd xs (j : Int))).set j (rd xs ((j + 1 : Nat) : Int))).length = xs.length := by simp
      generalize (xs.set (j + 1) (rd xs (j : Int))).set j (rd xs ((j + 1 : Nat) : Int)) = ys at g0 g1 g2 g3 ⊢
      have hl : i < ys.length := by omega
      refine insGo_srt i j ys (by omega) hl (fun a b hab hb ha hb' => ?_) (fun b hb hbi => ?_)
      · by_cases e1 : a = j + 1
        · subst e1
          rw [g2, g3 b hb' (by omega)]
          exact h1 j b (by omega) hb (by omega) (by omega)
        · by_cases e2 : b = j + 1
          · subst e2
            rw [g2, g3 a ha e1]
            exact h1 a j (by omega) (by omega) e1 (by omega)
          · rw [g3 a ha e1, g3 b hb' e2]
            exact h1 a b hab hb e1 e2
      · by_cases e2 : b = j + 1
        · subst e2
          rw [g1, g2]; omega
        · rw [g1, g3 b (by omega) e2]
          exact h2 b (by omega) hbi
    · rename_i hlt
      intro a b hab hb
      by_cases e1 : a = j + 1
      · subst e1; exact h2 b hab (by omega)
      · by_cases e2 : b = j + 1
        · subst e2
          by_cases e3 : a = j
          · subst e3; omega
          · have := h1 a j (by omega) (by omega) e1 (by omega)
            omega
        · exact h1 a b hab (by omega) e1 e2
theorem sortGo_srt : ∀ (d i : Nat) (xs : List Int), i + d = xs.length → Srt xs i → Srt (sortGo d i xs) xs.length
  | 0, i, xs, h, hs => by rw [sortGo]; rwa [← h]
  | d + 1, i, xs, h, hs => by
    rw [sortGo]
    have := sortGo_srt d (i + 1) (insGo i xs) (by rw [insGo_length]; omega) (insGo_srt i i xs (Nat.le_refl _) (by omega) (fun a b hab hb ha hb' => hs a b hab (by omega)) (fun b hb hb' => by omega))
    rwa [insGo_length] at this
theorem sortI_eq {xs ys : List Int} (hp : xs.Perm ys) (hs : ys.Pairwise (· < ·)) : sortI xs = ys := by
  have hl := sortI_length xs
  by_cases h0 : xs.length = 0
  · have e1 : xs = [] := List.length_eq_zero_iff.1 h0
    subst e1
    have e2 : ys = [] := hp.symm.eq_nil
    subst e2
    rfl
  · have h1 : Srt (sortI xs) xs.length := sortGo_srt _ _ _ (by omega) (fun a b hab hb => by omega)
    have h2 : (sortI xs).Perm xs := sortGo_perm _ _ _ (by omega)
    refine List.Perm.eq_of_pairwise (le := (· ≤ ·)) (fun a b _ _ h3 h4 => Int.le_antisymm h3 h4) ?_ (hs.imp (fun h => Int.le_of_lt h)) (h2.trans hp)
    rw [List.pairwise_iff_getElem]
    intro a b ha hb hab
    have := h1 a b hab (by omega)
    rwa [rd_get _ a ha, rd_get _ b hb] at this
/-! ### Cycles -/
def unseen (seen : List Bool) : Nat := seen.countP fun b => !b
theorem unseen_set {seen : List Bool} {y : Nat} (h : y < seen.length) (hf : seen.getD y false = false) : unseen seen = unseen (seen.set y true) + 1 := by
  induction seen generalizing y with
  | nil => simp at h
  | cons b r ih =>
    cases y with
    | zero =>
      simp at hf
      subst hf
      simp [unseen, List.countP_cons]
    | succ y =>
      have := ih (y := y) (by simpa using h) (by simpa using hf)
      simp only [unseen, List.set_cons_succ, List.countP_cons] at this ⊢
      omega
theorem unseen_pos {seen : List Bool} {y : Nat} (h : y < seen.length) (hf : seen.getD y false = false) : 0 < unseen seen := by
  have := unseen_set h hf
  omega
def cyc (e : List Int) : Nat → List Bool → List Int → Int → List Bool × List Int
  | 0, seen, acc, _ => (seen, acc)
  | d + 1, seen, acc, y => if seen.getD y.toNat false = true then (seen, acc) else cyc e d (seen.set y.toNat true) (acc ++ [y]) (rd e y)
theorem cyc_length (e : List Int) : ∀ (d : Nat) (seen : List Bool) (acc : List Int) (y : Int), (cyc e d seen acc y).1.length = seen.length
  | 0, seen, acc, y => rfl
  | d + 1, seen, acc, y => by
    rw [cyc]
    split
    · rfl
    · rw [cyc_length e d]; simp
theorem cyc_unseen (e : List Int) (n : Nat) (he : InN n e) : ∀ (d : Nat) (seen : List Bool) (acc : List Int) (y : Int), seen.length = n → 0 ≤ y ∧ y < (n : Int) → unseen (cyc e d seen acc y).1 ≤ unseen seen ∧ (cyc e d seen acc y).2.length + unseen (cyc e d seen acc y).1 = acc.length + unseen seen
  | 0, seen, acc, y, _, _ => ⟨Nat.le_refl _, rfl⟩
  | d + 1, seen, acc, y, hl, hy => by
    rw [cyc]
    split
    · exact ⟨Nat.le_refl _, rfl⟩
    · rename_i hf
      have h1 := unseen_set (seen := seen) (y := y.toNat) (by omega) (by simpa using hf)
      have h2 := cyc_unseen e n he d (seen.set y.toNat true) (acc ++ [y]) (rd e y) (by simpa using hl) (rd_in he hy.1 hy.2)
      simp only [List.length_append, List.length_cons, List.length_nil] at h2
      omega
def compGo (e : List Int) (n : Nat) : Nat → Nat → List Bool → List (List Int) → List (List Int)
  | 0, _, _, out => out
  | d + 1, x, seen, out => if seen.getD x false = true then compGo e n d (x + 1) seen out else compGo e n d (x + 1) (cyc e n seen [] (x : Int)).1 (out ++ [sortI (cyc e n seen [] (x : Int)).2])
def compsL (n : Nat) (e : List Int) : List (List Int) := compGo e n n 0 (List.replicate n false) []
theorem unseen_le (seen : List Bool) : unseen seen ≤ seen.length := List.countP_le_length
/-- The places of component k, from low to high. -/
def partL (n : Nat) (W : List Int) (k : Int) : List Int := (iota 0 n).filter fun x => decide (rd W x = k)
theorem iota_pw : ∀ (n : Nat) (k : Int), (iota k n).Pairwise (· < ·)
  | 0, _ => by simp [iota]
  | n + 1, k => by
    rw [iota, List.pairwise_cons]
    exact ⟨fun y hy => by have := iota_mem hy; omega, iota_pw n (k + 1)⟩
theorem partL_pw (n : Nat) (W : List Int) (k : Int) : (partL n W k).Pairwise (· < ·) := (iota_pw n 0).filter _
theorem mem_iota {k : Int} : ∀ {n : Nat} {y : Int}, k ≤ y → y < k + n → y ∈ iota k n
  | 0, y, h1, h2 => by omega
  | n + 1, y, h1, h2 => by
    rw [iota]
    by_cases e : y = k
    · simp [e]
    · exact List.mem_cons_of_mem _ (mem_iota (by omega) (by omega))
theorem mem_partL {n : Nat} {W : List Int} {k y : Int} : y ∈ partL n W k ↔ (0 ≤ y ∧ y < (n : Int)) ∧ rd W y = k := by
  simp only [partL, List.mem_filter, decide_eq_true_eq]
  exact ⟨fun h => ⟨by have := iota_mem h.1; omega, h.2⟩, fun h => ⟨mem_iota h.1.1 (by omega), h.2⟩⟩
/-- A list without repeats with the members of a part is a shuffle of it. -/
theorem perm_of_mem {l m : List Int} (hl : l.Nodup) (hm : m.Pairwise (· < ·)) (h : ∀ y, y ∈ l ↔ y ∈ m) : l.Perm m :=
  (List.perm_ext_iff_of_nodup hl (hm.imp (fun h => Int.ne_of_lt h))).2 h
theorem endsGo_in {n : Nat} {s : List Int} (hs : InN n s) : ∀ k, k ≤ n → InN n (endsGo s n k)
  | 0, _ => ⟨by simp [endsGo], fun v hv => by
      rw [endsGo] at hv
      have := List.mem_replicate.1 hv
      omega⟩
  | k + 1, h => (endsGo_in hs k (by omega)).set _ (by omega)
def compsM (n : Int) (l : List Int) : List (List Int) := compsL n.toNat (endsGo (atL n.toNat l) n.toNat n.toNat)
def occGo (l : List Int) : Nat → Int → Bool
  | 0, _ => true
  | d + 1, i => (decide (i ∈ l) || decide (-i ∈ l)) && occGo l d (i + 1)
def genusM (n : Int) (l : List Int) : Int × Int :=
  if isBraidB n l = true then (if occGo l (n - 1).toNat 1 = true then (wrap64 (Int.tdiv (2 - (compsM n l).length - n + l.length) 2), 0) else (0, 5)) else (0, 1)
theorem compGo_le (e : List Int) (n : Nat) : ∀ (d x : Nat) (seen : List Bool) (out : List (List Int)), (compGo e n d x seen out).length ≤ out.length + d
  | 0, x, seen, out => by simp [compGo]
  | d + 1, x, seen, out => by
    rw [compGo]
    split
    · have := compGo_le e n d (x + 1) seen out; omega
    · have := compGo_le e n d (x + 1) (cyc e n seen [] (x : Int)).1 (out ++ [sortI (cyc e n seen [] (x : Int)).2])
      simp only [List.length_append, List.length_cons, List.length_nil] at this
      omega
theorem compsM_le (n : Int) (l : List Int) : (compsM n l).length ≤ n.toNat := by
  have := compGo_le (endsGo (atL n.toNat l) n.toNat n.toNat) n.toNat n.toNat 0 (List.replicate n.toNat false) []
  simpa [compsM, compsL] using this
def compOfM (n : Int) (l : List Int) : List (List Int) × Int := if isBraidB n l = true then (compsM n l, 0) else ([], 1)
theorem iota_snoc (k : Int) (n : Nat) : iota k (n + 1) = iota k n ++ [k + n] := by
  induction n generalizing k with
  | zero => simp [iota]
  | succ n ih =>
    rw [iota, ih (k + 1), iota]
    simp only [List.cons_append, List.cons.injEq, true_and]
    congr 2
    omega
end Go.Proofs.Ytmmoimofjomnlaa.Lib
