/- Plats: lists of numbers and the functions that LibPlat speaks of. -/
import Derived.Test.YtmmoimofjomnlaaLibPlat
import Derived.Test.YtmmoimofjomnlaaLibCyc
set_option linter.unusedVariables false
set_option linter.unusedSimpArgs false
namespace Go.Proofs.Ytmmoimofjomnlaa.Lib
open Go.RowKit Go.Proofs.YtmmoimofjomnlaaW.PrintWords Go.Proofs.Ytmmoimofjomnlaa.LibPlat
namespace plx
/-! ### places of strands: a permutation -/
theorem swap_perm (xs : List Int) (i : Nat) (h : i + 1 < xs.length) : ((xs.set i (rd xs ((i + 1 : Nat) : Int))).set (i + 1) (rd xs (i : Int))).Perm xs := by
  have e1 : rd xs ((i + 1 : Nat) : Int) = xs[i + 1] := rd_get xs (i + 1) h
  have e2 : rd xs (i : Int) = xs[i] := rd_get xs i (by omega)
  rw [e1, e2]
  exact List.set_set_perm (by omega) h
theorem swI_perm {n : Nat} {xs : List Int} (hl : xs.length = n) {x : Int} (hx : 1 ≤ absI x ∧ absI x < (n : Int)) : (swI xs x).Perm xs := by
  have h := swap_perm xs (absI x - 1).toNat (by omega)
  unfold swI
  rw [show ((((absI x - 1).toNat + 1 : Nat)) : Int) = absI x by omega, show (((absI x - 1).toNat : Nat) : Int) = absI x - 1 by omega, show (absI x - 1).toNat + 1 = (absI x).toNat by omega] at h
  exact h
theorem fold_perm {n : Nat} : ∀ (l : List Int) (xs : List Int), (∀ x ∈ l, 1 ≤ absI x ∧ absI x < (n : Int)) → xs.length = n → (l.foldl swI xs).Perm xs
  | [], xs, _, _ => List.Perm.refl _
  | x :: l, xs, hl, hn => by
    have h1 := swI_perm hn (hl x (by simp))
    rw [List.foldl_cons]
    exact (fold_perm l (swI xs x) (fun y hy => hl y (by simp [hy])) (by rw [h1.length_eq]; exact hn)).trans h1
theorem atL_perm {n : Nat} {l : List Int} (hl : ∀ x ∈ l, 1 ≤ absI x ∧ absI x < (n : Int)) : (atL n l).Perm (iota 0 n) := fold_perm l (iota 0 n) hl (iota_length 0 n)
theorem iota_nodup (n : Nat) : (iota 0 n).Nodup := (iota_pw n 0).imp (fun h => Int.ne_of_lt h)
theorem rd_inj {s : List Int} (hn : s.Nodup) {a b : Nat} (ha : a < s.length) (hb : b < s.length) (h : rd s (a : Int) = rd s (b : Int)) : a = b := by
  rw [rd_get s a ha, rd_get s b hb] at h
  exact (List.getElem_inj (h₀ := ha) (h₁ := hb) hn).1 h
theorem ends_at {n : Nat} {s : List Int} (hi : InN n s) (hn : s.Nodup) : ∀ k, k ≤ n → ∀ q : Nat, q < k → rd (endsGo s n k) (rd s (q : Int)) = (q : Int)
  | 0, _, q, h => by omega
  | k + 1, hk, q, h => by
    have hl := endsGo_length s n k
    have hr := rd_in hi (x := (k : Int)) (by omega) (by omega)
    have hq := rd_in hi (x := (q : Int)) (by omega) (by omega)
    rw [endsGo]
    by_cases e : q = k
    · subst e
      have := rd_set_eq (endsGo s n q) (rd s (q : Int)).toNat (q : Int) (by omega)
      rwa [show (((rd s (q : Int)).toNat : Nat) : Int) = rd s (q : Int) by omega] at this
    · have hne : (rd s (q : Int)).toNat ≠ (rd s (k : Int)).toNat := fun h2 => e (rd_inj hn (by rw [hi.1]; omega) (by rw [hi.1]; omega) (by omega))
      have := rd_set_ne (endsGo s n k) (rd s (k : Int)).toNat (rd s (q : Int)).toNat (k : Int) hne
      rw [show (((rd s (q : Int)).toNat : Nat) : Int) = rd s (q : Int) by omega] at this
      rw [this]
      exact ends_at hi hn k (by omega) q (by omega)
theorem perm2 {n : Nat} {s : List Int} (hp : s.Perm (iota 0 n)) : plat.Perm2 n (fun z => (rd (endsGo s n n) (z : Int)).toNat) (fun q => (rd s (q : Int)).toNat) := by
  have hl : s.length = n := by rw [hp.length_eq]; exact iota_length 0 n
  have hi : InN n s := ⟨hl, fun v hv => (iota_in n).2 v (hp.mem_iff.1 hv)⟩
  have hn : s.Nodup := hp.nodup_iff.2 (iota_nodup n)
  have ha : ∀ q : Nat, q < n → 0 ≤ rd s (q : Int) ∧ rd s (q : Int) < n := fun q hq => rd_in hi (by omega) (by omega)
  have hea : ∀ q : Nat, q < n → rd (endsGo s n n) (rd s (q : Int)) = (q : Int) := fun q hq => ends_at hi hn n (Nat.le_refl _) q hq
  have sur : ∀ z : Nat, z < n → ∃ q : Nat, q < n ∧ rd s (q : Int) = (z : Int) := fun z hz => by
    have hm : (z : Int) ∈ s := hp.mem_iff.2 (mem_iota (by omega) (by omega))
    obtain ⟨q, hq, e⟩ := List.getElem_of_mem hm
    exact ⟨q, by omega, (rd_get s q hq).trans e⟩
  refine ⟨fun z hz => ?_, fun q hq => ?_, fun z hz => ?_, fun q hq => ?_⟩
  · obtain ⟨q, hq, e⟩ := sur z hz
    have := hea q hq
    rw [e] at this
    rw [this]
    omega
  · have := ha q hq
    omega
  · obtain ⟨q, hq, e⟩ := sur z hz
    have := hea q hq
    rw [e] at this
    rw [this, Int.toNat_natCast, e]
    omega
  · have h1 := ha q hq
    have h2 := hea q hq
    rw [show (((rd s (q : Int)).toNat : Nat) : Int) = rd s (q : Int) by omega, h2]
    omega
/-! ### sorted and without neighbours alike -/
theorem keep_count : ∀ (l : List Int), ((List.range l.length).countP (Lib.keeps l.toArray)) = plat.cmpN l
  | [] => rfl
  | [a] => by simp [plat.cmpN, Lib.keeps, List.range_succ]
  | a :: b :: r => by
    have ih := keep_count (b :: r)
    rw [plat.cmpN, ← ih]
    have h1 : (List.range (a :: b :: r).length).countP (Lib.keeps (a :: b :: r).toArray) = 1 + (List.range (b :: r).length).countP (fun j => Lib.keeps (a :: b :: r).toArray (j + 1)) := by
      rw [show (a :: b :: r).length = (b :: r).length + 1 from rfl, List.range_succ_eq_map, List.countP_cons, List.countP_map]
      have : Lib.keeps (a :: b :: r).toArray 0 = true := by simp [Lib.keeps]
      rw [this]
      simp only [if_true]
      rw [Nat.add_comm]
      rfl
    have h2 : (List.range (b :: r).length).countP (fun j => Lib.keeps (a :: b :: r).toArray (j + 1)) = (if b = a then 0 else 1) + (List.range r.length).countP (fun j => Lib.keeps (a :: b :: r).toArray (j + 2)) := by
      rw [show (b :: r).length = r.length + 1 from rfl, List.range_succ_eq_map, List.countP_cons, List.countP_map, Nat.add_comm]
      congr 1
      simp [Lib.keeps]
    have h3 : (List.range (b :: r).length).countP (Lib.keeps (b :: r).toArray) = 1 + (List.range r.length).countP (fun j => Lib.keeps (b :: r).toArray (j + 1)) := by
      rw [show (b :: r).length = r.length + 1 from rfl, List.range_succ_eq_map, List.countP_cons, List.countP_map]
      have : Lib.keeps (b :: r).toArray 0 = true := by simp [Lib.keeps]
      rw [this]
      simp only [if_true]
      rw [Nat.add_comm]
      rfl
    have h4 : (fun j => Lib.keeps (a :: b :: r).toArray (j + 2)) = fun j => Lib.keeps (b :: r).toArray (j + 1) := by
      funext j
      simp [Lib.keeps]
    rw [h1, h2, h3, h4]
    by_cases e : a = b
    · subst e; simp
    · have e2 : ¬ b = a := fun h => e h.symm
      simp only [e, e2, if_false] <;> omega
theorem compact_len (l : List Int) : (Lib.compactUpTo l.toArray l.toArray.size).length = plat.cmpN l := by
  unfold Lib.compactUpTo
  rw [List.length_map, ← keep_count l, List.countP_eq_length_filter]
  simp
theorem sort_count (G : List Int) (h : 1 ≤ G.length) : (Lib.compactUpTo (sortI G).toArray (sortI G).toArray.size).length = plat.dcount G := by
  have hp : (sortI G).Perm G := sortGo_perm _ _ _ (by omega)
  have hs : Srt (sortI G) (sortI G).length := by
    have h1 := sortGo_srt (G.length - 1) 1 G (by omega) (fun a b h1 h2 => by omega)
    rw [sortI_length]
    exact h1
  rw [compact_len, plat.cmpN_sorted, plat.dcount_perm hp]
  rw [List.pairwise_iff_getElem]
  intro i j hi hj hij
  have := hs i j hij hj
  rwa [rd_get _ i hi, rd_get _ j hj] at this
end plx
end Go.Proofs.Ytmmoimofjomnlaa.Lib
