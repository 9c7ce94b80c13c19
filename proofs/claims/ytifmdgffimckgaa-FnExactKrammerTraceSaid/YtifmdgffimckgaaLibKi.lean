/- Krammer's matrix sends no vector to 0; its rows number by number. -/
import Derived.Test.YtifmdgffimckgaaLibBu
import Derived.Test.YtifmdgffimckgaaLibKr
set_option linter.unusedVariables false
set_option linter.unusedSimpArgs false
namespace Go.Proofs.Ytifmdgffimckgaa.Lib
open Go.RowKit Go.Proofs.YtifmdgffimckgaaW.PrintWords Go.Proofs.Ytifmdgffimckgaa.LibMx Go.Proofs.Ytifmdgffimckgaa.LibPi Go.Proofs.Ytifmdgffimckgaa.LibKr
namespace inj
open iv kr
def cv (v : Int) : Int := iv.inF (wrap64 (0 + v))
theorem wrap_wrap (x : Int) : wrap64 (0 + wrap64 x) = wrap64 x := by unfold wrap64; omega
theorem cv_wrap (x : Int) : cv (wrap64 x) = iv.inF (wrap64 x) := by unfold cv; rw [wrap_wrap]
theorem cv_of {x : Int} (h : 0 ≤ x ∧ x ≤ 10006) : cv x = x := by
  unfold cv
  rw [Int.zero_add, w64 (by omega) (by omega), inF_em (by omega)]
  omega
theorem rdz (m i : Nat) : rd (List.replicate m (0 : Int)) (i : Int) = 0 := by
  unfold rd
  rw [Int.toNat_natCast]
  exact zeros_at m i
theorem rowI1 {n : Nat} {k q t i j less : Int} {o : Int × Int × Int} (hl : iv.inF (wrap64 (q - 1)) = less) (ho : ops k q t less i j = [o]) : rowI n k q t (i, j) = (List.replicate (PF n).length (0 : Int)).set (ix n (o.1, o.2.1)) (cv o.2.2) := by
  unfold rowI
  simp only
  rw [hl, ho]
  simp only [List.foldl_cons, List.foldl_nil, ad, rdz]
  rfl
theorem rowI2 {n : Nat} {k q t i j less : Int} {o o' : Int × Int × Int} (hl : iv.inF (wrap64 (q - 1)) = less) (ho : ops k q t less i j = [o, o']) (h0 : ix n (o.1, o.2.1) < (PF n).length) (hne : ix n (o.1, o.2.1) ≠ ix n (o'.1, o'.2.1)) : rowI n k q t (i, j) = ((List.replicate (PF n).length (0 : Int)).set (ix n (o.1, o.2.1)) (cv o.2.2)).set (ix n (o'.1, o'.2.1)) (cv o'.2.2) := by
  unfold rowI
  simp only
  rw [hl, ho]
  simp only [List.foldl_cons, List.foldl_nil, ad, rdz]
  have e : rd ((List.replicate (PF n).length (0 : Int)).set (ix n (o.1, o.2.1)) (iv.inF (wrap64 (0 + o.2.2)))) (ix n (o'.1, o'.2.1) : Nat) = 0 := by
    unfold rd
    rw [Int.toNat_natCast, set_at _ _ _ _ (by simpa using h0), if_neg hne, zeros_at]
  rw [e]
  rfl
theorem ix_ne {n : Nat} (hn : n ≤ 8) {p p' : Int × Int} (h : inR n p) (h' : inR n p') (hne : p ≠ p') : ix n p ≠ ix n p' := fun e => hne (by
  have h1 := ix_at hn h
  rw [e, ix_at hn h'] at h1
  exact (Option.some.inj h1).symm)
theorem dot1 {m a : Nat} {x : Int} {v : List Int} (hv : v.length = m) (ha : a < m) : dot ((List.replicate m (0 : Int)).set a x) v = x * v.getD a 0 := by
  rw [dot_set _ _ _ _ (by simpa using ha) (by simp [hv]), dot_zeros, zeros_at]
  simp
theorem dot2 {m a b : Nat} {x y : Int} {v : List Int} (hv : v.length = m) (ha : a < m) (hb : b < m) (hne : a ≠ b) : dot (((List.replicate m (0 : Int)).set a x).set b y) v = x * v.getD a 0 + y * v.getD b 0 := by
  rw [dot_set _ _ _ _ (by simpa using hb) (by simp [hv]), dot1 hv ha, set_at _ _ _ _ (by simpa using ha), if_neg hne, zeros_at]
  simp
theorem pw_range {q : Int} (hq : 0 ≤ q ∧ q ≤ 10006) : ∀ e, 0 ≤ pw q e ∧ pw q e ≤ 10006
  | 0 => by unfold pw; omega
  | e + 1 => by
    have ih := pw_range hq e
    unfold pw
    rw [scl_em ih hq]
    omega
theorem pw2 {q : Int} (hq : 0 ≤ q ∧ q ≤ 10006) : pw q 2 = (q * q) % 10007 := by
  have h1 : pw q 1 = q := by
    show Int.tmod (wrap64 (pw q 0 * q)) 10007 = q
    rw [show pw q 0 = 1 from rfl, scl_em (by omega) hq, Int.one_mul]
    omega
  show Int.tmod (wrap64 (pw q 1 * q)) 10007 = _
  rw [h1, scl_em hq hq]
theorem first_em {t q : Int} (ht : 0 ≤ t ∧ t ≤ 10006) (hq : 0 ≤ q ∧ q ≤ 10006) : cv (wrap64 (t * pw q 2)) = (t * q * q) % 10007 := by
  have hp := pw_range hq 2
  have m1 := fm_bound (a := 0) (by omega) ht hp
  rw [cv_wrap, w64 (x := t * pw q 2) (by omega) (by omega), inF_em (by omega), pw2 hq, Int.mul_emod t ((q * q) % 10007), Int.emod_emod, ← Int.mul_emod, Int.mul_assoc]
theorem first_spec {t q : Int} (ht : 0 ≤ t ∧ t ≤ 10006) (hq : 0 ≤ q ∧ q ≤ 10006) : iv.inF (wrap64 (Int.tmod (wrap64 (t * q)) 10007 * q)) = (t * q * q) % 10007 := by
  rw [scl_em ht hq]
  have hp : 0 ≤ (t * q) % 10007 ∧ (t * q) % 10007 ≤ 10006 := by omega
  have m1 := fm_bound (a := 0) (by omega) hp hq
  rw [w64 (x := (t * q) % 10007 * q) (by omega) (by omega), inF_em (by omega), Int.mul_emod ((t * q) % 10007) q, Int.emod_emod, ← Int.mul_emod]
theorem less_eq {q : Int} (hq : 1 ≤ q ∧ q ≤ 10006) : iv.inF (wrap64 (q - 1)) = wrap64 (q - 1) := by
  rw [w64 (x := q - 1) (by omega) (by omega), inF_em (by omega)]
  omega
/-! ### the numbers of a row, by cases -/
section
variable {k q t less i j : Int}
theorem opsA (h : i = k) (h2 : j = k + 1) : ops k q t less i j = [(k, k + 1, wrap64 (t * pw q 2))] := by unfold ops; rw [if_pos ⟨h, h2⟩]
theorem opsB (h : i ≠ k) (h2 : j = k) : ops k q t less i j = [(i, k, wrap64 (1 - q)), (i, k + 1, q)] := by unfold ops; rw [if_neg (by omega), if_pos h2]
theorem opsC (h : i < k) (h2 : j = k + 1) : ops k q t less i j = [(i, k, 1), (k, k + 1, wrap64 (Int.tmod (wrap64 (t * pw q (k - i + 1).toNat)) 10007 * less))] := by unfold ops; rw [if_neg (by omega), if_neg (by omega), if_pos ⟨h2, h⟩]
theorem opsD (h : i = k) (h2 : k + 1 < j) : ops k q t less i j = [(k, k + 1, wrap64 (Int.tmod (wrap64 (t * q)) 10007 * less)), (k + 1, j, q)] := by unfold ops; rw [if_neg (by omega), if_neg (by omega), if_neg (by omega), if_pos h]
theorem opsE (h : i = k + 1) (h2 : k + 1 < j) : ops k q t less i j = [(k, j, 1), (k + 1, j, wrap64 (1 - q))] := by unfold ops; rw [if_neg (by omega), if_neg (by omega), if_neg (by omega), if_neg (by omega), if_pos h]
theorem opsF (h : i < k) (h2 : k + 1 < j) : ops k q t less i j = [(i, j, 1), (k, k + 1, wrap64 (Int.tmod (wrap64 (t * pw q (k - i).toNat)) 10007 * Int.tmod (wrap64 (less * less)) 10007))] := by unfold ops; rw [if_neg (by omega), if_neg (by omega), if_neg (by omega), if_neg (by omega), if_neg (by omega), if_pos ⟨h, h2⟩]
theorem opsG (h : i < j) (h2 : j < k ∨ k + 1 < i) : ops k q t less i j = [(i, j, 1)] := by unfold ops; rw [if_neg (by omega), if_neg (by omega), if_neg (by omega), if_neg (by omega), if_neg (by omega), if_neg (by omega)]
end
theorem rowI_FR {n : Nat} {k q t : Int} : ∀ (os : List (Int × Int × Int)) (r : List Int), (∀ x ∈ r, 0 ≤ x ∧ x ≤ 10006) → ∀ x ∈ os.foldl (ad n) r, 0 ≤ x ∧ x ≤ 10006
  | [], r, h => h
  | o :: os, r, h => by
    rw [List.foldl_cons]
    refine rowI_FR (k := k) (q := q) (t := t) os _ fun x hx => ?_
    unfold ad at hx
    rcases List.mem_or_eq_of_mem_set hx with h1 | h1
    · exact h x h1
    · rw [h1]; exact iv2.ivinF_range _
theorem mat_FM (n : Nat) (k q t : Int) : FM (PF n).length (mat n k q t) := by
  refine ⟨by simp [mat], fun r hr => ?_⟩
  obtain ⟨p, _, rfl⟩ := List.mem_map.1 hr
  refine ⟨rowI_len _ _ _ _ _, ?_⟩
  unfold rowI
  exact rowI_FR (k := k) (q := q) (t := t) _ _ (fun x hx => by rw [(List.mem_replicate.1 hx).2]; omega)
theorem mat_row {n : Nat} (hn : n ≤ 8) {k q t : Int} {p : Int × Int} (h : inR n p) : (mat n k q t).getD (ix n p) [] = rowI n k q t p := by
  unfold mat
  rw [List.getD_eq_getElem?_getD, List.getElem?_map, ix_at hn h]
  rfl
theorem P0_add {a b : Int} (h : P0 (a + b)) (ha : P0 a) : P0 b := by
  have := Int.dvd_sub h ha
  rwa [show a + b - a = b by omega] at this
theorem P0_mul {a b : Int} (h : P0 b) : P0 (a * b) := Int.dvd_mul_of_dvd_right h
theorem mat_Inj {n : Nat} (hn : n ≤ 8) {k q t : Int} (hk : 1 ≤ k ∧ k < n) (hq : 1 ≤ q ∧ q ≤ 10006) (ht : 1 ≤ t ∧ t ≤ 10006) : Inj (PF n).length (mat n k q t) := by
  intro v hv hd
  have row : ∀ p, inR n p → P0 (dot (rowI n k q t p) v) := fun p hp => by
    have := hd (ix n p) (ix_lt hn hp)
    rw [mat_row hn hp] at this
    exact this
  have R : ∀ {a b : Int}, 1 ≤ a → a < b → b ≤ n → inR n (a, b) := fun h1 h2 h3 => ⟨h1, h2, h3⟩
  obtain ⟨V, hV⟩ : ∃ V : Int → Int → Int, ∀ a b, v.getD (ix n (a, b)) 0 = V a b := ⟨fun a b => v.getD (ix n (a, b)) 0, fun _ _ => rfl⟩
  have one : ∀ {i j a b x : Int}, inR n (i, j) → inR n (a, b) → ops k q t (iv.inF (wrap64 (q - 1))) i j = [(a, b, x)] → P0 (cv x * V a b) := fun {i j a b x} h1 h2 h3 => by
    have := row _ h1
    rw [rowI1 rfl h3] at this
    simp only at this
    rw [dot1 hv (ix_lt hn h2), hV] at this
    exact this
  have two : ∀ {i j a b x c d y : Int}, inR n (i, j) → inR n (a, b) → inR n (c, d) → (a, b) ≠ (c, d) → ops k q t (iv.inF (wrap64 (q - 1))) i j = [(a, b, x), (c, d, y)] → P0 (cv x * V a b + cv y * V c d) := fun {i j a b x c d y} h1 h2 h3 hne h4 => by
    have := row _ h1
    rw [rowI2 rfl h4 (ix_lt hn h2) (ix_ne hn h2 h3 hne)] at this
    simp only at this
    rw [dot2 hv (ix_lt hn h2) (ix_lt hn h3) (ix_ne hn h2 h3 hne), hV, hV] at this
    exact this
  have c1 : cv 1 = 1 := cv_of (by omega)
  have cq : cv q = q := cv_of (by omega)
  have a0 : P0 (V k (k + 1)) := by
    have := one (R hk.1 (by omega) (by omega)) (R hk.1 (by omega) (by omega)) (opsA rfl rfl)
    rw [first_em (by omega) (by omega)] at this
    have h2 := P0_mul (a := V k (k + 1)) (em_dvd (t * q * q))
    have h3 := Int.dvd_sub this h2
    rw [show (t * q * q) % 10007 * V k (k + 1) - V k (k + 1) * ((t * q * q) % 10007 - t * q * q) = t * (q * (q * V k (k + 1))) by rw [Int.mul_sub, Int.mul_comm (V k (k + 1)) ((t * q * q) % 10007), Int.mul_comm (V k (k + 1)) (t * q * q), Int.mul_assoc (t * q) q, Int.mul_assoc t q (q * V k (k + 1))]; omega] at h3
    exact cancel hq (cancel hq (cancel ht h3))
  have aC : ∀ i, 1 ≤ i → i < k → P0 (V i k) := fun i h1 h2 => by
    have := two (R h1 (by omega) (by omega)) (R h1 h2 (by omega)) (R hk.1 (by omega) (by omega)) (by simp <;> omega) (opsC h2 rfl)
    rw [c1, Int.one_mul, Int.add_comm] at this
    exact P0_add this (P0_mul a0)
  have aB : ∀ i, 1 ≤ i → i < k → P0 (V i (k + 1)) := fun i h1 h2 => by
    have := two (R h1 h2 (by omega)) (R h1 h2 (by omega)) (R h1 (by omega) (by omega)) (by simp <;> omega) (opsB (by omega) rfl)
    rw [cq] at this
    exact cancel hq (P0_add this (P0_mul (aC i h1 h2)))
  have aD : ∀ j, k + 1 < j → j ≤ n → P0 (V (k + 1) j) := fun j h1 h2 => by
    have := two (R hk.1 (by omega) h2) (R hk.1 (by omega) (by omega)) (R (by omega) h1 h2) (by simp <;> omega) (opsD rfl h1)
    rw [cq] at this
    exact cancel hq (P0_add this (P0_mul a0))
  have aE : ∀ j, k + 1 < j → j ≤ n → P0 (V k j) := fun j h1 h2 => by
    have := two (R (by omega) h1 h2) (R hk.1 (by omega) h2) (R (by omega) h1 h2) (by simp <;> omega) (opsE rfl h1)
    rw [c1, Int.one_mul, Int.add_comm] at this
    exact P0_add this (P0_mul (aD j h1 h2))
  have all : ∀ i j, inR n (i, j) → P0 (V i j) := fun i j h => by
    have h' : 1 ≤ i ∧ i < j ∧ j ≤ n := h
    by_cases e1 : i = k
    · subst e1
      by_cases e2 : j = i + 1
      · subst e2; exact a0
      · exact aE j (by omega) h'.2.2
    by_cases e3 : j = k
    · subst e3; exact aC i h'.1 h'.2.1
    by_cases e4 : j = k + 1
    · subst e4; exact aB i h'.1 (by omega)
    by_cases e5 : i = k + 1
    · subst e5; exact aD j h'.2.1 h'.2.2
    by_cases e6 : i < k ∧ k + 1 < j
    · have := two h h (R hk.1 (by omega) (by omega)) (by simp <;> omega) (opsF e6.1 e6.2)
      rw [c1, Int.one_mul, Int.add_comm] at this
      exact P0_add this (P0_mul a0)
    · have := one h h (opsG h'.2.1 (by omega))
      rwa [c1, Int.one_mul] at this
  intro x hx
  obtain ⟨p, hp⟩ : ∃ p, (PF n)[x]? = some p := ⟨_, List.getElem?_eq_getElem hx⟩
  have hin := PF_in n hn p (List.mem_of_getElem? hp)
  rw [ix_of hn hp]
  have := all p.1 p.2 hin
  rw [← hV] at this
  exact this
end inj
end Go.Proofs.Ytifmdgffimckgaa.Lib
