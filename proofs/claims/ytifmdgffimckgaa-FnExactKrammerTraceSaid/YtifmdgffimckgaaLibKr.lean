/- Krammer's letters: pairs of strands, the map of their numbers, the rows. -/
import Derived.Test.YtifmdgffimckgaaLibPi
import Derived.Maps.RangeWalk
import Derived.DeepKeys4
set_option linter.unusedVariables false
set_option linter.unusedSimpArgs false
namespace Go.Proofs.Ytifmdgffimckgaa.LibKr
open Go.RowKit Go.Proofs.YtifmdgffimckgaaW.PrintWords Go.Proofs.Ytifmdgffimckgaa.LibMx Go.Proofs.Ytifmdgffimckgaa.LibPi
variable {I IS : TypeId} {W : World} {base n cap : Nat} {ok : Nat → Prop} {xs : List (List Int)}
theorem grown_setCell (W : World) (p : Addr) (v : Value) : W.grownBy (W.setCell p v) (some p.block) :=
  ⟨rfl, rfl, rfl, by simp [World.setCell], fun i _ hn => Below.heap_setCell W p v i (fun e => hn (by rw [e]))⟩
theorem cell_drew {w : World} {a : Addr} {v : Option Value} (h : w.cell? a = v) : w.drew.cell? a = v := h
theorem ranges_at {P : Program} {k : TypeId} {R : Value → Option (DataW Unit × List MemPlace)} {b r n cnt q : Nat} {D : DataW Unit} {left : Lit → Bool} {W' : World} (hq : W.drewN q = W') (h : W.ranges P k R b r n D left cnt) : W'.ranges P k R b r n D left cnt := by
  subst hq
  exact h
theorem owns_at {P : Program} {k : TypeId} {R : Value → Option (DataW Unit × List MemPlace)} {b n q : Nat} {D : DataW Unit} {W' : World} (hq : W.drewN q = W') (h : W.ownsMap P k R b n D) : W'.ownsMap P k R b n D := by
  subst hq
  exact h
theorem grown_of_kept {w W : World} {g : Nat} (h : Kept w W (fun k => k = g)) (hb : Below 0 w W) : w.grownBy W (some g) := ⟨hb.os, hb.tape, hb.output, hb.size, fun k hk hn => h.2 k hk (fun e => hn (by rw [e]))⟩
namespace kr
open iv
abbrev PP := List (Int × Int)
/-- The pairs (i, j), (i, j + 1), .. -/
def prow (i : Int) : Int → Nat → PP
  | _, 0 => []
  | j, d + 1 => (i, j) :: prow i (j + 1) d
/-- The pairs whose first strand is i or a later one. -/
def PR : Nat → Int → PP
  | 0, _ => []
  | d + 1, i => prow i (i + 1) d ++ PR d (i + 1)
abbrev PF (n : Nat) : PP := PR n 1
def inR (n : Nat) (p : Int × Int) : Prop := 1 ≤ p.1 ∧ p.1 < p.2 ∧ p.2 ≤ n
instance (n : Nat) (p : Int × Int) : Decidable (inR n p) := by unfold inR; infer_instance
theorem PF_nodup : ∀ n : Nat, n ≤ 8 → (PF n).Nodup := by
  have h : ∀ n ∈ List.range 9, (PF n).Nodup := by decide +kernel
  exact fun n hn => h n (by simp; omega)
theorem PF_in : ∀ n : Nat, n ≤ 8 → ∀ p ∈ PF n, inR n p := by
  have h : ∀ n ∈ List.range 9, ∀ p ∈ PF n, inR n p := by decide +kernel
  exact fun n hn => h n (by simp; omega)
theorem PF_mem : ∀ n : Nat, n ≤ 8 → ∀ p, inR n p → p ∈ PF n := by
  have h : ∀ n ∈ List.range 9, ∀ i ∈ List.range 9, ∀ j ∈ List.range 9, inR n ((i : Int), (j : Int)) → ((i : Int), (j : Int)) ∈ PF n := by decide +kernel
  intro n hn p hp
  obtain ⟨i, j⟩ := p
  have h2 := hp
  unfold inR at h2
  simp only at h2
  have := h n (by simp; omega) i.toNat (by simp; omega) j.toNat (by simp; omega)
  rw [show ((i.toNat : Nat) : Int) = i by omega, show ((j.toNat : Nat) : Int) = j by omega] at this
  exact this hp
theorem PF_len : ∀ n : Nat, n ≤ 8 → (PF n).length = n * (n - 1) / 2 := by
  have h : ∀ n ∈ List.range 9, (PF n).length = n * (n - 1) / 2 := by decide +kernel
  exact fun n hn => h n (by simp; omega)
theorem PF_len28 (n : Nat) (h : n ≤ 8) : (PF n).length ≤ 28 := by
  have h2 : ∀ n ∈ List.range 9, (PF n).length ≤ 28 := by decide +kernel
  exact h2 n (by simp; omega)
def ix (n : Nat) (p : Int × Int) : Nat := (PF n).idxOf p
theorem ix_lt {n : Nat} (hn : n ≤ 8) {p : Int × Int} (h : inR n p) : ix n p < (PF n).length := List.idxOf_lt_length_of_mem (PF_mem n hn p h)
theorem ix_at {n : Nat} (hn : n ≤ 8) {p : Int × Int} (h : inR n p) : (PF n)[ix n p]? = some p := by
  have := ix_lt hn h
  rw [List.getElem?_eq_getElem this]
  exact congrArg some (List.getElem_idxOf this)
theorem ix_of {n : Nat} (hn : n ≤ 8) {p : Int × Int} {x : Nat} (h : (PF n)[x]? = some p) : x = ix n p := by
  obtain ⟨hx, he⟩ := List.getElem?_eq_some_iff.1 h
  have hm : p ∈ PF n := he ▸ List.getElem_mem hx
  have h2 := List.idxOf_lt_length_of_mem hm
  have h3 : (PF n)[(PF n).idxOf p] = p := List.getElem_idxOf h2
  exact (List.getElem_inj (h₀ := hx) (h₁ := h2) (PF_nodup n hn)).1 (he.trans h3.symm)
/-! ### the map of the pairs' numbers -/
variable {KL : Int → Int → Lit} {D : DataW Unit} {pl : PP}
def PM (KL : Int → Int → Lit) (D : DataW Unit) (pl : PP) : Prop :=
  Maps.size D = pl.length ∧ (∀ kl, Maps.has D kl = true → ∃ p ∈ pl, kl = KL p.1 p.2) ∧ ∀ (x : Nat) (p : Int × Int), pl[x]? = some p → Maps.has D (KL p.1 p.2) = true ∧ ∀ z, D.atKey (KL p.1 p.2) z = .lit (.int .i64 (x : Int))
def KOk (P : Program) (kt : TypeId) (KL : Int → Int → Lit) : Prop := ∀ i j : Int, 1 ≤ i ∧ i ≤ 8 → 1 ≤ j ∧ j ≤ 8 → keyOf P kt (.agg #[.int .i64 i, .int .i64 j]) = some (KL i j)
theorem KOk.inj {P : Program} {kt : TypeId} (h : KOk P kt KL) {i j i' j' : Int} (hi : 1 ≤ i ∧ i ≤ 8) (hj : 1 ≤ j ∧ j ≤ 8) (hi' : 1 ≤ i' ∧ i' ≤ 8) (hj' : 1 ≤ j' ∧ j' ≤ 8) (K : Maps.Keyed P kt) (e : KL i j = KL i' j') : i = i' ∧ j = j' := by
  have h1 := h i j hi hj
  have h2 := h i' j' hi' hj'
  rw [← e] at h2
  have := K.inj h1 h2
  injection this with e1
  have e2 := congrArg Array.toList e1
  simp at e2
  exact e2
theorem PM.nil : PM KL (.map []) [] := by
  refine ⟨rfl, fun kl h => ?_, fun x p h => by simp at h⟩
  rw [Maps.has_eq] at h
  simp at h
theorem PM.step {P : Program} {kt : TypeId} (hk : KOk P kt KL) (K : Maps.Keyed P kt) (h : PM KL D pl) (ht : Maps.Tidy D) (hr : ∀ q ∈ pl, (1 ≤ q.1 ∧ q.1 ≤ 8) ∧ 1 ≤ q.2 ∧ q.2 ≤ 8) (p : Int × Int) (hp : (1 ≤ p.1 ∧ p.1 ≤ 8) ∧ 1 ≤ p.2 ∧ p.2 ≤ 8) (hn : p ∉ pl) :
    PM KL (D.put (KL p.1 p.2) (.lit (.int .i64 (Maps.size D : Int)))) (pl ++ [p]) := by
  obtain ⟨h1, h2, h3⟩ := h
  have hkl : WideAt.IsKeyLit (KL p.1 p.2) := K.key (hk p.1 p.2 hp.1 hp.2)
  have hno : Maps.has D (KL p.1 p.2) = false := by
    cases e : Maps.has D (KL p.1 p.2) with
    | false => rfl
    | true =>
      obtain ⟨q, hq, e2⟩ := h2 _ e
      have := hk.inj hp.1 hp.2 (hr q hq).1 (hr q hq).2 K e2
      exact absurd (by rw [show p = q from Prod.ext this.1 this.2]; exact hq) hn
  refine ⟨?_, ?_, ?_⟩
  · rw [Maps.size_put ht, hno]
    simp [h1]
  · intro kl hkl2
    by_cases e : kl = KL p.1 p.2
    · exact ⟨p, by simp, e⟩
    · rw [Maps.has_put_other e] at hkl2
      obtain ⟨q, hq, e2⟩ := h2 _ hkl2
      exact ⟨q, by simp [hq], e2⟩
  · intro x q hq
    by_cases hx : x < pl.length
    · rw [List.getElem?_append_left hx] at hq
      have hm : q ∈ pl := List.mem_of_getElem? hq
      have hne : KL q.1 q.2 ≠ KL p.1 p.2 := fun e2 => by
        have := hk.inj (hr q hm).1 (hr q hm).2 hp.1 hp.2 K e2
        exact hn (by rw [← show q = p from Prod.ext this.1 this.2]; exact hm)
      obtain ⟨a1, a2⟩ := h3 x q hq
      exact ⟨by rw [Maps.has_put_other hne]; exact a1, fun z => by rw [Maps.atKey_put_other hne]; exact a2 z⟩
    · rw [List.getElem?_append_right (by omega)] at hq
      have hx2 : x - pl.length = 0 := by
        obtain ⟨h4, _⟩ := List.getElem?_eq_some_iff.1 hq
        simp at h4
        omega
      rw [hx2] at hq
      simp at hq
      subst hq
      have hx3 : x = pl.length := by omega
      subst hx3
      refine ⟨Maps.has_put_same ht.isMap hkl _, fun z => ?_⟩
      rw [Maps.atKey_put_same ht.isMap hkl, h1]
/-! ### rows -/
def pw (x : Int) : Nat → Int
  | 0 => 1
  | e + 1 => Int.tmod (wrap64 (pw x e * x)) 10007
def ad (n : Nat) (r : List Int) (o : Int × Int × Int) : List Int := r.set (ix n (o.1, o.2.1)) (inF (wrap64 (rd r (ix n (o.1, o.2.1) : Nat) + o.2.2)))
def ops (k q t less i j : Int) : List (Int × Int × Int) :=
  if i = k ∧ j = k + 1 then [(k, k + 1, wrap64 (t * pw q 2))]
  else if j = k then [(i, k, wrap64 (1 - q)), (i, k + 1, q)]
  else if j = k + 1 ∧ i < k then [(i, k, 1), (k, k + 1, wrap64 (Int.tmod (wrap64 (t * pw q (k - i + 1).toNat)) 10007 * less))]
  else if i = k then [(k, k + 1, wrap64 (Int.tmod (wrap64 (t * q)) 10007 * less)), (k + 1, j, q)]
  else if i = k + 1 then [(k, j, 1), (k + 1, j, wrap64 (1 - q))]
  else if i < k ∧ j > k + 1 then [(i, j, 1), (k, k + 1, wrap64 (Int.tmod (wrap64 (t * pw q (k - i).toNat)) 10007 * Int.tmod (wrap64 (less * less)) 10007))]
  else [(i, j, 1)]
def rowI (n : Nat) (k q t : Int) (p : Int × Int) : List Int := (ops k q t (inF (wrap64 (q - 1))) p.1 p.2).foldl (ad n) (List.replicate (PF n).length 0)
def mat (n : Nat) (k q t : Int) : LL := (PF n).map (rowI n k q t)
theorem ad_len (n : Nat) (r : List Int) (o : Int × Int × Int) : (ad n r o).length = r.length := by simp [ad]
theorem fold_len (n : Nat) : ∀ (l : List (Int × Int × Int)) (r : List Int), (l.foldl (ad n) r).length = r.length
  | [], r => rfl
  | o :: l, r => by rw [List.foldl_cons, fold_len n l, ad_len]
theorem rowI_len (n : Nat) (k q t : Int) (p : Int × Int) : (rowI n k q t p).length = (PF n).length := by unfold rowI; rw [fold_len]; simp
/-- One number added in row x of the rows. -/
def adM (n : Nat) (L : LL) (x : Int) (o : Int × Int × Int) : LL := pt L x (ix n (o.1, o.2.1) : Nat) (inF (wrap64 (gt L x (ix n (o.1, o.2.1) : Nat) + o.2.2)))
theorem adM_row (n : Nat) (L : LL) (x : Nat) (o : Int × Int × Int) (r : List Int) (hx : x < L.length) (h : L.getD x [] = r) : adM n L (x : Int) o = L.set x (ad n r o) := by
  unfold adM pt ad gt
  rw [Int.toNat_natCast, Int.toNat_natCast, h]
theorem set_self : ∀ (L : LL) (x : Nat), L.set x (L.getD x []) = L
  | [], _ => rfl
  | a :: L, 0 => rfl
  | a :: L, x + 1 => by
    rw [List.set_cons_succ, List.getD_cons_succ, set_self L x]
theorem getD_setLL (L : LL) (x y : Nat) (r : List Int) (hx : x < L.length) : (L.set x r).getD y [] = if x = y then r else L.getD y [] := by
  rw [List.getD_eq_getElem?_getD, List.getElem?_set]
  by_cases e : x = y
  · rw [if_pos e, if_pos hx, if_pos e]; rfl
  · rw [if_neg e, if_neg e, ← List.getD_eq_getElem?_getD]
theorem fold_adM (n : Nat) (x : Nat) : ∀ (os : List (Int × Int × Int)) (L : LL) (r : List Int), x < L.length → L.getD x [] = r → os.foldl (fun M o => adM n M (x : Int) o) L = L.set x (os.foldl (ad n) r)
  | [], L, r, hx, h => by
    simp only [List.foldl_nil]
    rw [← h, set_self]
  | o :: os, L, r, hx, h => by
    rw [List.foldl_cons, List.foldl_cons, adM_row n L x o r hx h, fold_adM n x os (L.set x (ad n r o)) (ad n r o) (by simpa using hx) (by rw [getD_setLL _ _ _ _ hx, if_pos rfl]), List.set_set]
/-! ### the rows while the loop over the map runs -/
def RO (n : Nat) (k q t : Int) (KL : Int → Int → Lit) (left : Lit → Bool) (L : LL) : Prop :=
  L.length = (PF n).length ∧ ∀ (x : Nat) (p : Int × Int), (PF n)[x]? = some p → L.getD x [] = if left (KL p.1 p.2) = true then List.replicate (PF n).length 0 else rowI n k q t p
theorem RO.start {n : Nat} {k q t : Int} {left : Lit → Bool} (h : ∀ (x : Nat) (p : Int × Int), (PF n)[x]? = some p → left (KL p.1 p.2) = true) : RO n k q t KL left (List.replicate (PF n).length (List.replicate (PF n).length 0)) := by
  refine ⟨by simp, fun x p hx => ?_⟩
  have hlt : x < (PF n).length := (List.getElem?_eq_some_iff.1 hx).1
  rw [if_pos (h x p hx), List.getD_eq_getElem?_getD, List.getElem?_replicate, if_pos hlt]
  rfl
theorem RO.done {n : Nat} {k q t : Int} {left : Lit → Bool} {L : LL} (h : RO n k q t KL left L) (hl : ∀ kl, left kl = false) : L = mat n k q t := by
  refine List.ext_getElem (by simp [mat, h.1]) fun x h1 h2 => ?_
  have hx : x < (PF n).length := by rw [← h.1]; exact h1
  have := h.2 x _ (List.getElem?_eq_getElem hx)
  rw [hl] at this
  simp only [Bool.false_eq_true, if_false] at this
  rw [List.getD_eq_getElem?_getD, List.getElem?_eq_getElem h1] at this
  simp only [mat, List.getElem_map]
  exact this
theorem RO.Sq {n : Nat} {k q t : Int} {left : Lit → Bool} {L : LL} (h : RO n k q t KL left L) : ∀ i, i < (PF n).length → (L.getD i []).length = (PF n).length := fun i hi => by
  rw [h.2 i _ (List.getElem?_eq_getElem hi)]
  split
  · simp
  · exact rowI_len _ _ _ _ _
theorem RO.step {P : Program} {kt : TypeId} (hk : KOk P kt KL) (K : Maps.Keyed P kt) {n : Nat} (hn : n ≤ 8) {k q t : Int} {left : Lit → Bool} {L : LL} (h : RO n k q t KL left L) (x : Nat) (p : Int × Int) (hx : (PF n)[x]? = some p) :
    RO n k q t KL (fun z => left z && !z.sameKey (KL p.1 p.2)) (L.set x (rowI n k q t p)) := by
  have hp : inR n p := PF_in n hn p (List.mem_of_getElem? hx)
  have hlt : x < L.length := by rw [h.1]; exact (List.getElem?_eq_some_iff.1 hx).1
  have hpr := hp
  unfold inR at hpr
  have hkl : WideAt.IsKeyLit (KL p.1 p.2) := K.key (hk p.1 p.2 (by omega) (by omega))
  refine ⟨by rw [List.length_set]; exact h.1, fun y r hy => ?_⟩
  rw [getD_setLL _ _ _ _ hlt]
  by_cases e : x = y
  · subst e
    have e2 : p = r := Option.some.inj (hx.symm.trans hy)
    subst e2
    rw [if_pos rfl]
    simp only [WideAt.sameKey_self hkl, Bool.not_true, Bool.and_false, Bool.false_eq_true, if_false]
  · rw [if_neg e, h.2 y r hy]
    have hr : inR n r := PF_in n hn r (List.mem_of_getElem? hy)
    unfold inR at hr
    have hne : KL r.1 r.2 ≠ KL p.1 p.2 := fun e2 => by
      have e3 := hk.inj (by omega) (by omega) (by omega) (by omega) K e2
      have e4 : r = p := Prod.ext e3.1 e3.2
      rw [e4] at hy
      exact e ((ix_of hn hx).trans (ix_of hn hy).symm)
    simp only [Maps.sameKey_ne hne, Bool.not_false, Bool.and_true]
theorem ops_fin1 {n : Nat} {k q t i j less : Int} {L : LL} {x : Nat} {o : Int × Int × Int} (hx : x < L.length) (h0 : L.getD x [] = List.replicate (PF n).length 0) (hl : inF (wrap64 (q - 1)) = less) (ho : ops k q t less i j = [o]) : adM n L (x : Int) o = L.set x (rowI n k q t (i, j)) := by
  have h := fold_adM n x [o] L _ hx h0
  unfold rowI
  simp only
  rw [hl, ho, ← h]
  rfl
theorem ops_fin2 {n : Nat} {k q t i j less : Int} {L : LL} {x : Nat} {o o' : Int × Int × Int} (hx : x < L.length) (h0 : L.getD x [] = List.replicate (PF n).length 0) (hl : inF (wrap64 (q - 1)) = less) (ho : ops k q t less i j = [o, o']) : adM n (adM n L (x : Int) o) (x : Int) o' = L.set x (rowI n k q t (i, j)) := by
  have h := fold_adM n x [o, o'] L _ hx h0
  unfold rowI
  simp only
  rw [hl, ho, ← h]
  rfl
theorem adM_Sq {n m : Nat} {L : LL} (h : Sq m L) (x : Int) (o : Int × Int × Int) (h0 : 0 ≤ x) (h1 : x < m) : Sq m (adM n L x o) := h.pt _ _ _ h0 h1
theorem entry_of {P : Program} {kt it : TypeId} (hk : KOk P kt KL) (K : Maps.Keyed P kt) (hit : P.underlying it = some (.int .i64)) {n : Nat} (hn : n ≤ 8) (h : PM KL D (PF n)) {key : Value} {kl : Lit} {c : Int} {y : DataW Unit × List MemPlace} (hkey : keyOf P kt key = some kl) (hhas : Maps.has D kl = true)
    (hv : plainElem P it (.int .i64 c) = some y) (hat : ∀ zd, D.atKey kl zd = y.1) : ∃ (i j : Int) (x : Nat), key = .agg #[.int .i64 i, .int .i64 j] ∧ c = (x : Int) ∧ (PF n)[x]? = some (i, j) ∧ kl = KL i j ∧ inR n (i, j) := by
  obtain ⟨p, hp, rfl⟩ := h.2.1 kl hhas
  have hin := PF_in n hn p hp
  have hin2 := hin
  unfold inR at hin2
  obtain ⟨x, hx⟩ := List.getElem?_of_mem hp
  obtain ⟨_, h3⟩ := h.2.2 x p hx
  obtain ⟨c', e1, e2, _⟩ := plainElem_int_inv hit hv
  cases e1
  have h4 := (hat (.lit (.int .i64 0))).symm.trans (h3 (.lit (.int .i64 0)))
  rw [e2] at h4
  simp only [DataW.lit.injEq, Lit.int.injEq, true_and] at h4
  exact ⟨p.1, p.2, x, K.inj hkey (hk p.1 p.2 (by omega) (by omega)), h4, hx, rfl, hin⟩
end kr
end Go.Proofs.Ytifmdgffimckgaa.LibKr
