/- Closed curves of a plat: the walk along points counts what groups of strands that are merged count. -/
import Derived.Test.YtmmoimofjomnlaaWWords
import Derived.Lib.SliceRun
import Derived.Lib.SlicesCompact
import Derived.Sort.WalkB2
set_option linter.unusedVariables false
set_option linter.unusedSimpArgs false
namespace Go.Proofs.Ytmmoimofjomnlaa.LibPlat
open Go.RowKit Go.Proofs.YtmmoimofjomnlaaW.PrintWords in
theorem plcell {w : World} {a : Addr} {v : Option Value} (h : w.cell? a = v) : w.drew.cell? a = v := h
open Go.RowKit Go.Proofs.YtmmoimofjomnlaaW.PrintWords in
theorem plfroz {w : World} {a : Addr} {b : Bool} (h : w.frozen? a = b) : w.drew.frozen? a = b := h
section
open Go.RowKit Go.Proofs.YtmmoimofjomnlaaW.PrintWords
theorem plgrown {W w : World} {g j : Nat} {v : Value} (h : W.grownBy w (some g)) : W.grownBy (w.setCell ⟨g, j, none⟩ v) (some g) :=
  ⟨h.os, h.tape, h.output, by simpa [World.setCell] using h.size, fun k hk hn => (Below.heap_setCell w ⟨g, j, none⟩ v k (fun e => hn (by rw [e]))).trans (h.block k hk hn)⟩
theorem plgrownN {W w : World} {g : Nat} (h : W.grownBy w (some g)) (q : Nat) : W.grownBy (w.drewN q) (some g) := ⟨h.os, h.tape, h.output, h.size, h.block⟩
theorem plgrown0 (W : World) (row : Option Nat) : W.grownBy W row := ⟨rfl, rfl, rfl, Nat.le_refl _, fun _ _ _ => rfl⟩
theorem plgrowns {W w : World} {g : Nat} (h : W.grownBy w (some g)) : ∀ (vs : List Value) (o : Nat), W.grownBy (w.setCells g o vs) (some g) := by
  intro vs
  induction vs generalizing w with
  | nil => intro o; exact h
  | cons v vs ih => intro o; rw [World.setCells]; exact ih (plgrown h) (o + 1)
theorem plholds {w : World} {blk : Nat} {d : Array Int} (h : Sort.Holds (Value.int .i64) w blk 0 d) (k : Nat) (hk : k < d.size) (u : Int) : Sort.Holds (Value.int .i64) (w.setCell ⟨blk, k, none⟩ (.int .i64 u)) blk 0 (d.setIfInBounds k u) := by
  have e := Sort.putRow_self (Value.int .i64) w blk 0 d h
  have e2 := Sort.putRow_set (Value.int .i64) w blk 0 d k u hk
  rw [e, Nat.zero_add] at e2
  rw [e2]
  exact Sort.holds_putRow (Value.int .i64) w blk 0 d _ h (by simp)
theorem plholds_at {w w' : World} {blk q : Nat} {d : Array Int} (hq : w.drewN q = w') (h : Sort.Holds (Value.int .i64) w blk 0 d) : Sort.Holds (Value.int .i64) w' blk 0 d := by subst hq; exact h
theorem plgrown_at {W w w' : World} {g q : Nat} (hq : w.drewN q = w') (h : W.grownBy w (some g)) : W.grownBy w' (some g) := by subst hq; exact plgrownN h q
theorem plcell_at {w w' : World} {q : Nat} {a : Addr} {v : Option Value} (hq : w.drewN q = w') (h : w.cell? a = v) : w'.cell? a = v := by subst hq; exact h
theorem plfroz_at {w w' : World} {q : Nat} {a : Addr} {v : Bool} (hq : w.drewN q = w') (h : w.frozen? a = v) : w'.frozen? a = v := by subst hq; exact h
theorem plcell_grown {W w : World} {g : Nat} {a : Addr} {v : Option Value} (h : W.grownBy w (some g)) (hc : W.cell? a = v) (hl : a.block < W.heap.size) (hn : a.block ≠ g) : w.cell? a = v := by
  rw [World.cell?_of_block (h.block a.block hl (fun e => hn (Option.some.inj e)))]
  exact hc
theorem plholds_of {I : TypeId} {W : World} {base n g c : Nat} {ok : Nat → Prop} {xs : List Int} (h : Kd.R (Kd.int .i64) I W base ok (.slice (some ⟨g, 0, none⟩) n c) xs) (hl : xs.length = n) : Sort.Holds (Value.int .i64) W g 0 xs.toArray := by
  intro j hj
  have hj2 : j < xs.length := by simpa using hj
  obtain ⟨h1, h2⟩ := Kd.R_celln 0 h (j : Int) (by omega) (by omega)
  rw [Int.toNat_natCast] at h1 h2
  rw [Nat.zero_add]
  refine ⟨h1.trans ?_, h2⟩
  congr 2
  unfold rdOf
  rw [Int.toNat_natCast, List.getD_eq_getElem?_getD, List.getElem?_eq_getElem hj2]
  rw [getElem!_pos xs.toArray j hj]
  simp
end
namespace plat
/-! ### groups that are merged -/
def mg (f : Nat → Int) (x y : Nat) : Nat → Int := fun a => if f a = max (f x) (f y) then min (f x) (f y) else f a
def mgs (P : List (Nat × Nat)) (f : Nat → Int) : Nat → Int := P.foldl (fun f q => mg f q.1 q.2) f
theorem mg_both (f : Nat → Int) (x y : Nat) : mg f x y x = mg f x y y := by
  unfold mg
  by_cases h1 : f x = max (f x) (f y)
  · rw [if_pos h1]
    by_cases h2 : f y = max (f x) (f y)
    · rw [if_pos h2]
    · rw [if_neg h2]; omega
  · rw [if_neg h1]
    by_cases h2 : f y = max (f x) (f y)
    · rw [if_pos h2]; omega
    · rw [if_neg h2]; omega
theorem mg_nn {f : Nat → Int} (x y a : Nat) (hf : ∀ a, 0 ≤ f a) : 0 ≤ mg f x y a := by
  have h1 := hf x
  have h2 := hf y
  have h3 := hf a
  unfold mg
  split <;> omega
theorem mgs_nn : ∀ (P : List (Nat × Nat)) (f : Nat → Int) (a : Nat), (∀ a, 0 ≤ f a) → 0 ≤ mgs P f a
  | [], f, a, hf => hf a
  | q :: P, f, a, hf => mgs_nn P (mg f q.1 q.2) a (fun b => mg_nn q.1 q.2 b hf)
theorem mg_le {f : Nat → Int} {x y : Nat} {n : Nat} {H : Nat → Nat} (hx : x < n) (hy : y < n) (h0 : ∀ a b, a < n → b < n → f a = f b → H a = H b) (hxy : H x = H y) (a b : Nat) (ha : a < n) (hb : b < n) (h : mg f x y a = mg f x y b) : H a = H b := by
  have key : ∀ c, c < n → f c = max (f x) (f y) ∨ f c = min (f x) (f y) → H c = H x := by
    intro c hc h1
    have h2 : f c = f x ∨ f c = f y := by omega
    rcases h2 with h2 | h2
    · exact h0 c x hc hx h2
    · exact (h0 c y hc hy h2).trans hxy.symm
  unfold mg at h
  by_cases h1 : f a = max (f x) (f y)
  · rw [if_pos h1] at h
    by_cases h2 : f b = max (f x) (f y)
    · exact (key a ha (Or.inl h1)).trans (key b hb (Or.inl h2)).symm
    · rw [if_neg h2] at h
      exact (key a ha (Or.inl h1)).trans (key b hb (Or.inr h.symm)).symm
  · rw [if_neg h1] at h
    by_cases h2 : f b = max (f x) (f y)
    · rw [if_pos h2] at h
      exact (key a ha (Or.inr h)).trans (key b hb (Or.inl h2)).symm
    · rw [if_neg h2] at h
      exact h0 a b ha hb h
theorem mgs_le {n : Nat} {H : Nat → Nat} : ∀ (P : List (Nat × Nat)) (f : Nat → Int), (∀ q ∈ P, q.1 < n ∧ q.2 < n ∧ H q.1 = H q.2) → (∀ a b, a < n → b < n → f a = f b → H a = H b) → ∀ a b, a < n → b < n → mgs P f a = mgs P f b → H a = H b
  | [], f, _, h0, a, b, ha, hb, h => h0 a b ha hb h
  | q :: P, f, hP, h0, a, b, ha, hb, h => by
    obtain ⟨h1, h2, h3⟩ := hP q (by simp)
    exact mgs_le P (mg f q.1 q.2) (fun r hr => hP r (by simp [hr])) (fun c d hc hd => mg_le h1 h2 h0 h3 c d hc hd) a b ha hb h
theorem mgs_keep : ∀ (P : List (Nat × Nat)) (f : Nat → Int) (a b : Nat), f a = f b → mgs P f a = mgs P f b
  | [], f, a, b, h => h
  | q :: P, f, a, b, h => mgs_keep P (mg f q.1 q.2) a b (by unfold mg; rw [h])
theorem mgs_both : ∀ (P : List (Nat × Nat)) (f : Nat → Int) (q : Nat × Nat), q ∈ P → mgs P f q.1 = mgs P f q.2
  | r :: P, f, q, h => by
    rcases List.mem_cons.1 h with e | e
    · subst e
      exact mgs_keep P _ _ _ (mg_both f q.1 q.2)
    · exact mgs_both P (mg f r.1 r.2) q e
/-! ### how many labels -/
def dcount : List Int → Nat
  | [] => 0
  | a :: r => (if a ∈ r then 0 else 1) + dcount r
theorem dcount_perm {l m : List Int} (h : l.Perm m) : dcount l = dcount m := by
  induction h with
  | nil => rfl
  | cons a h ih => simp only [dcount, h.mem_iff, ih]
  | swap a b l =>
    simp only [dcount, List.mem_cons]
    by_cases e : a = b
    · subst e; rfl
    · have e2 : ¬ b = a := fun h => e h.symm
      simp only [e, e2, false_or]
      omega
  | trans _ _ h1 h2 => exact h1.trans h2
theorem dcount_congr (f h : Nat → Int) : ∀ (l : List Nat), (∀ a ∈ l, ∀ b ∈ l, f a = f b ↔ h a = h b) → dcount (l.map f) = dcount (l.map h)
  | [], _ => rfl
  | a :: l, hl => by
    have e : f a ∈ l.map f ↔ h a ∈ l.map h := by
      simp only [List.mem_map]
      constructor
      · rintro ⟨b, hb, e⟩; exact ⟨b, hb, (hl b (by simp [hb]) a (by simp)).1 e⟩
      · rintro ⟨b, hb, e⟩; exact ⟨b, hb, (hl b (by simp [hb]) a (by simp)).2 e⟩
    simp only [List.map_cons, dcount, e]
    rw [dcount_congr f h l (fun b hb c hc => hl b (by simp [hb]) c (by simp [hc]))]
theorem countP_one (q : Nat → Bool) (a : Nat) : ∀ (S : List Nat), S.Nodup → a ∈ S → S.countP (fun i => decide (i = a) || q i) = S.countP q + if q a = true then 0 else 1
  | s :: S, hn, ha => by
    obtain ⟨h1, h2⟩ := List.nodup_cons.1 hn
    rw [List.countP_cons, List.countP_cons]
    by_cases e : s = a
    · subst e
      have h3 : S.countP (fun i => decide (i = s) || q i) = S.countP q := by
        refine List.countP_congr fun i hi => ?_
        have : ¬ i = s := fun h => h1 (h ▸ hi)
        simp [this]
      rw [h3]
      by_cases hq : q s = true
      · simp [hq]
      · simp [hq]
    · have hm : a ∈ S := by
        rcases List.mem_cons.1 ha with h | h
        · exact absurd h.symm e
        · exact h
      rw [countP_one q a S h2 hm]
      have : decide (s = a) = false := by simp [e]
      simp only [this, Bool.false_or]
      omega
theorem dcount_range (c : Nat) : ∀ (l : List Nat), (∀ a ∈ l, a < c) → dcount (l.map Int.ofNat) = (List.range c).countP (fun i => decide (i ∈ l))
  | [], _ => by simp [dcount]
  | a :: l, h => by
    have ih := dcount_range c l (fun b hb => h b (by simp [hb]))
    have h1 := countP_one (fun i => decide (i ∈ l)) a (List.range c) List.nodup_range (by simp; exact h a (by simp))
    have h2 : (List.range c).countP (fun i => decide (i ∈ a :: l)) = (List.range c).countP (fun i => decide (i = a) || decide (i ∈ l)) := by
      refine List.countP_congr fun i _ => ?_
      simp
    rw [h2, h1, List.map_cons]
    simp only [dcount]
    rw [ih]
    have h3 : Int.ofNat a ∈ l.map Int.ofNat ↔ a ∈ l := by
      simp only [List.mem_map]
      constructor
      · rintro ⟨b, hb, e⟩; cases e; exact hb
      · intro h; exact ⟨a, h, rfl⟩
    simp only [h3, decide_eq_true_eq]
    omega
theorem dcount_all (c : Nat) (l : List Nat) (h : ∀ a ∈ l, a < c) (hs : ∀ i, i < c → i ∈ l) : dcount (l.map Int.ofNat) = c := by
  rw [dcount_range c l h]
  have : (List.range c).countP (fun i => decide (i ∈ l)) = (List.range c).countP (fun _ => true) := by
    refine List.countP_congr fun i hi => ?_
    simp only [List.mem_range] at hi
    simp [hs i hi]
  rw [this]
  simp
/-! ### sorted lists without neighbours alike -/
def cmpN : List Int → Nat
  | [] => 0
  | [_] => 1
  | a :: b :: r => (if a = b then 0 else 1) + cmpN (b :: r)
theorem cmpN_sorted : ∀ (l : List Int), l.Pairwise (· ≤ ·) → cmpN l = dcount l
  | [], _ => rfl
  | [a], _ => by simp [cmpN, dcount]
  | a :: b :: r, h => by
    obtain ⟨h1, h2⟩ := List.pairwise_cons.1 h
    have e : a ∈ b :: r ↔ a = b := by
      constructor
      · intro hm
        rcases List.mem_cons.1 hm with h3 | h3
        · exact h3
        · have h4 := (List.pairwise_cons.1 h2).1 a h3
          have h5 := h1 b (by simp)
          omega
      · intro h3; simp [h3]
    rw [cmpN, cmpN_sorted (b :: r) h2]
    conv => rhs; rw [dcount]
    simp only [e]
/-! ### closed curves -/
def up (M : Nat → Bool) (y : Nat) : Nat → Bool := fun z => if z = y then true else M z
def pwk (p o : Nat → Nat) : Nat → (Nat → Bool) → Nat → (Nat → Bool)
  | 0, M, _ => M
  | d + 1, M, y => if M y = true then M else pwk p o d (up (up M y) (p y)) (o (p y))
def un (m : Nat) (M : Nat → Bool) : Nat := (List.range m).countP fun z => !M z
structure Two (m : Nat) (p o : Nat → Nat) : Prop where
  pl : ∀ z, z < m → p z < m
  ol : ∀ z, z < m → o z < m
  pp : ∀ z, z < m → p (p z) = z
  oo : ∀ z, z < m → o (o z) = z
  pn : ∀ z, z < m → p z ≠ z
  on : ∀ z, z < m → o z ≠ z
variable {m : Nat} {p o : Nat → Nat}
def Clo (m : Nat) (q : Nat → Nat) (M : Nat → Bool) : Prop := ∀ z, z < m → M z = true → M (q z) = true
theorem un_up {M : Nat → Bool} {y : Nat} (hy : y < m) (h : M y = false) : un m (up M y) < un m M := by
  unfold un
  have h1 := countP_one (fun z => !(up M y) z) y (List.range m) List.nodup_range (by simp [hy])
  have h2 : (List.range m).countP (fun z => decide (z = y) || !(up M y) z) = (List.range m).countP fun z => !M z := by
    refine List.countP_congr fun z _ => ?_
    unfold up
    by_cases e : z = y
    · simp [e, h]
    · simp [e]
  rw [h2] at h1
  have h3 : (!(up M y) y) = false := by simp [up]
  rw [h3] at h1
  simp only [Bool.false_eq_true, if_false] at h1
  omega
theorem un_le {M : Nat → Bool} {y : Nat} : un m (up M y) ≤ un m M := by
  unfold un
  refine List.countP_mono_left fun z _ h => ?_
  unfold up at h
  by_cases e : z = y
  · simp [e] at h
  · simpa [e] using h
theorem un_zero {M : Nat → Bool} (h : un m M = 0) {y : Nat} (hy : y < m) : M y = true := by
  unfold un at h
  rw [List.countP_eq_zero] at h
  have := h y (by simp [hy])
  simpa using this
/-- What the walk has met, under way. -/
structure Way (m : Nat) (p o : Nat → Nat) (M0 M : Nat → Bool) (x w : Nat) : Prop where
  cp : Clo m p M
  fit : ∀ z, z < m → M z = true → z ≠ x → z ≠ w → M (o z) = true ∧ o z ≠ w
  hx : M x = true
  hw : M w = true
  wl : w < m
  ge : ∀ z, M0 z = true → M z = true
  same : ∀ (H : Nat → Nat), (∀ z, z < m → H (p z) = H z) → (∀ z, z < m → H (o z) = H z) → ∀ z, z < m → M z = true → M0 z = false → H z = H x
  nw : M0 w = false
structure End (m : Nat) (p o : Nat → Nat) (M0 M : Nat → Bool) (x : Nat) : Prop where
  cp : Clo m p M
  co : Clo m o M
  hx : M x = true
  ge : ∀ z, M0 z = true → M z = true
  same : ∀ (H : Nat → Nat), (∀ z, z < m → H (p z) = H z) → (∀ z, z < m → H (o z) = H z) → ∀ z, z < m → M z = true → M0 z = false → H z = H x
theorem way_end (T : Two m p o) {M0 M : Nat → Bool} {x w : Nat} (hxl : x < m) (h : Way m p o M0 M x w) (hy : M (o w) = true) : End m p o M0 M x := by
  have hyx : o w = x := by
    by_cases e : o w = x
    · exact e
    · have := (h.fit (o w) (T.ol w h.wl) hy e (T.on w h.wl)).2
      exact absurd (T.oo w h.wl) this
  refine ⟨h.cp, fun z hz hm => ?_, h.hx, h.ge, h.same⟩
  by_cases e1 : z = x
  · subst e1
    have : o z = w := by rw [← hyx]; exact T.oo w h.wl
    rw [this]; exact h.hw
  by_cases e2 : z = w
  · subst e2; rw [hyx]; exact h.hx
  · exact (h.fit z hz hm e1 e2).1
theorem way_step (T : Two m p o) {M0 M : Nat → Bool} {x w : Nat} (hxl : x < m) (hc0 : Clo m o M0) (h : Way m p o M0 M x w) (hy : M (o w) = false) : Way m p o M0 (up (up M (o w)) (p (o w))) x (p (o w)) := by
  have yl := T.ol w h.wl
  have py : M (p (o w)) = false := by
    cases e : M (p (o w)) with
    | false => rfl
    | true =>
      have := h.cp _ (T.pl _ yl) e
      rw [T.pp _ yl] at this
      rw [this] at hy
      cases hy
  have ny : M0 (o w) = false := by
    cases e : M0 (o w) with
    | false => rfl
    | true => rw [h.ge _ e] at hy; cases hy
  have npy : M0 (p (o w)) = false := by
    cases e : M0 (p (o w)) with
    | false => rfl
    | true => rw [h.ge _ e] at py; cases py
  refine ⟨?_, ?_, ?_, ?_, T.pl _ yl, ?_, ?_, npy⟩
  · intro z hz hm
    unfold up at hm ⊢
    by_cases e1 : z = p (o w)
    · subst e1; rw [T.pp _ yl]; simp
    by_cases e2 : z = o w
    · subst e2; simp
    · rw [if_neg e1, if_neg e2] at hm
      have := h.cp z hz hm
      simp [this]
  · intro z hz hm hzx hzw
    have hm' : z = o w ∨ M z = true := by
      unfold up at hm
      rw [if_neg hzw] at hm
      by_cases e2 : z = o w
      · exact Or.inl e2
      · rw [if_neg e2] at hm; exact Or.inr hm
    rcases hm' with e | hM
    · subst e
      rw [T.oo w h.wl]
      refine ⟨?_, fun e3 => ?_⟩
      · unfold up; simp [h.hw]
      · rw [e3] at h; have := h.hw; rw [py] at this; cases this
    · by_cases e3 : z = w
      · subst e3
        refine ⟨?_, fun e4 => T.pn _ yl e4.symm⟩
        unfold up; simp
      · obtain ⟨h1, h2⟩ := h.fit z hz hM hzx e3
        refine ⟨by unfold up; simp [h1], fun e4 => ?_⟩
        rw [e4, py] at h1
        cases h1
  · unfold up; simp [h.hx]
  · unfold up; simp
  · intro z hz; unfold up; simp [h.ge z hz]
  · intro H hp ho z hz hm h0
    have hw := h.same H hp ho w h.wl h.hw h.nw
    unfold up at hm
    by_cases e1 : z = p (o w)
    · subst e1; rw [hp _ yl, ho _ h.wl, hw]
    by_cases e2 : z = o w
    · subst e2; rw [ho _ h.wl, hw]
    · rw [if_neg e1, if_neg e2] at hm
      exact h.same H hp ho z hz hm h0
theorem way_go (T : Two m p o) {M0 : Nat → Bool} {x : Nat} (hxl : x < m) (hc0 : Clo m o M0) : ∀ (d : Nat) (M : Nat → Bool) (w : Nat), un m M ≤ d → Way m p o M0 M x w → End m p o M0 (pwk p o d M (o w)) x
  | 0, M, w, hd, h => show End m p o M0 M x from way_end T hxl h (un_zero (Nat.le_zero.1 hd) (T.ol w h.wl))
  | d + 1, M, w, hd, h => by
    unfold pwk
    by_cases hy : M (o w) = true
    · rw [if_pos hy]; exact way_end T hxl h hy
    · rw [if_neg hy]
      have hy' : M (o w) = false := by simpa using hy
      have h1 := un_up (T.ol w h.wl) hy'
      have h2 := un_le (m := m) (M := up M (o w)) (y := p (o w))
      exact way_go T hxl hc0 d _ _ (by omega) (way_step T hxl hc0 h hy')
theorem pwk_end (T : Two m p o) {M0 : Nat → Bool} {x : Nat} (hxl : x < m) (hp0 : Clo m p M0) (ho0 : Clo m o M0) (hx : M0 x = false) (d : Nat) (hd : un m M0 ≤ d) : End m p o M0 (pwk p o d M0 x) x := by
  have hu : 0 < un m M0 := by
    have := un_up hxl hx
    omega
  obtain ⟨e, rfl⟩ : ∃ e, d = e + 1 := ⟨d - 1, by omega⟩
  unfold pwk
  rw [if_neg (by simp [hx])]
  have npx : M0 (p x) = false := by
    cases e : M0 (p x) with
    | false => rfl
    | true =>
      have := hp0 _ (T.pl _ hxl) e
      rw [T.pp _ hxl, hx] at this
      cases this
  have h1 := un_up hxl hx
  have h2 := un_le (m := m) (M := up M0 x) (y := p x)
  refine way_go T hxl ho0 e _ (p x) (by omega) ⟨?_, ?_, ?_, ?_, T.pl _ hxl, ?_, ?_, npx⟩
  · intro z hz hm
    unfold up at hm ⊢
    by_cases e1 : z = p x
    · subst e1; rw [T.pp _ hxl]; simp
    by_cases e2 : z = x
    · subst e2; simp
    · rw [if_neg e1, if_neg e2] at hm
      simp [hp0 z hz hm]
  · intro z hz hm hzx hzw
    unfold up at hm
    rw [if_neg hzw, if_neg hzx] at hm
    have h3 := ho0 z hz hm
    refine ⟨by unfold up; simp [h3], fun e4 => ?_⟩
    rw [e4, npx] at h3
    cases h3
  · unfold up; simp
  · unfold up; simp
  · intro z hz; unfold up; simp [hz]
  · intro H hp ho z hz hm h0
    unfold up at hm
    by_cases e1 : z = p x
    · subst e1; exact hp _ hxl
    by_cases e2 : z = x
    · rw [e2]
    · rw [if_neg e1, if_neg e2, h0] at hm; cases hm
/-! ### all points in turn -/
def pcnt (p o : Nat → Nat) (k : Nat) : Nat → Nat → (Nat → Bool) → Nat → Nat
  | 0, _, _, c => c
  | d + 1, x, M, c => if M x = true then pcnt p o k d (x + 1) M c else pcnt p o k d (x + 1) (pwk p o k M x) (c + 1)
structure Lab (m : Nat) (p o : Nat → Nat) (x : Nat) (M : Nat → Bool) (c : Nat) (lab : Nat → Nat) : Prop where
  cp : Clo m p M
  co : Clo m o M
  lt : ∀ z, z < m → M z = true → lab z < c
  lp : ∀ z, z < m → M z = true → lab (p z) = lab z
  lo : ∀ z, z < m → M z = true → lab (o z) = lab z
  all : ∀ i, i < c → ∃ s, s < m ∧ M s = true ∧ lab s = i
  done : ∀ z, z < x → M z = true
  same : ∀ (H : Nat → Nat), (∀ z, z < m → H (p z) = H z) → (∀ z, z < m → H (o z) = H z) → ∀ z z', z < m → z' < m → M z = true → M z' = true → lab z = lab z' → H z = H z'
theorem pcnt_lab (T : Two m p o) (k : Nat) (hk : m ≤ k) : ∀ (d x : Nat) (M : Nat → Bool) (c : Nat) (lab : Nat → Nat), x + d = m → Lab m p o x M c lab → ∃ M' lab', Lab m p o m M' (pcnt p o k d x M c) lab'
  | 0, x, M, c, lab, hx, h => ⟨M, lab, by rw [show x = m by omega] at h; exact h⟩
  | d + 1, x, M, c, lab, hx, h => by
    unfold pcnt
    have hxl : x < m := by omega
    by_cases hm : M x = true
    · rw [if_pos hm]
      refine pcnt_lab T k hk d (x + 1) M c lab (by omega) { h with done := fun z hz => ?_ }
      by_cases e : z = x
      · rw [e]; exact hm
      · exact h.done z (by omega)
    · rw [if_neg hm]
      have hm' : M x = false := by simpa using hm
      have hun : un m M ≤ k := by
        have : un m M ≤ m := by unfold un; have := List.countP_le_length (p := fun z => !M z) (l := List.range m); simpa using this
        omega
      have E := pwk_end T hxl h.cp h.co hm' k hun
      obtain ⟨M1, hM1⟩ : ∃ M1, pwk p o k M x = M1 := ⟨_, rfl⟩
      rw [hM1] at E ⊢
      have nb : ∀ (q : Nat → Nat), (∀ z, z < m → q z < m) → (∀ z, z < m → q (q z) = z) → Clo m q M → ∀ z, z < m → M z = false → M (q z) = false := by
        intro q ql qq hq z hz h0
        cases e : M (q z) with
        | false => rfl
        | true => have := hq _ (ql z hz) e; rw [qq z hz, h0] at this; cases this
      refine pcnt_lab T k hk d (x + 1) M1 (c + 1) (fun z => if M z = true then lab z else c) (by omega) ⟨E.cp, E.co, ?_, ?_, ?_, ?_, ?_, ?_⟩
      · intro z hz _
        by_cases e : M z = true
        · simp only [e, if_true]; have := h.lt z hz e; omega
        · simp [e]
      · intro z hz _
        by_cases e : M z = true
        · simp only [e, h.cp z hz e, if_true]; exact h.lp z hz e
        · have := nb p T.pl T.pp h.cp z hz (by simpa using e)
          simp [e, this]
      · intro z hz _
        by_cases e : M z = true
        · simp only [e, h.co z hz e, if_true]; exact h.lo z hz e
        · have := nb o T.ol T.oo h.co z hz (by simpa using e)
          simp [e, this]
      · intro i hi
        by_cases e : i < c
        · obtain ⟨s, h1, h2, h3⟩ := h.all i e
          exact ⟨s, h1, E.ge s h2, by simp [h2, h3]⟩
        · exact ⟨x, hxl, E.hx, by simp [hm']; omega⟩
      · intro z hz
        by_cases e : z = x
        · rw [e]; exact E.hx
        · exact E.ge z (h.done z (by omega))
      · intro H hp ho z z' hz hz' h1 h2 h3
        by_cases e : M z = true <;> by_cases e' : M z' = true
        · simp only [e, e', if_true] at h3; exact h.same H hp ho z z' hz hz' e e' h3
        · simp only [e, e', if_true, Bool.false_eq_true, if_false] at h3; have := h.lt z hz e; omega
        · simp only [e, e', if_true, Bool.false_eq_true, if_false] at h3; have := h.lt z' hz' e'; omega
        · exact (E.same H hp ho z hz h1 (by simpa using e)).trans (E.same H hp ho z' hz' h2 (by simpa using e')).symm
/-! ### plats -/
def po (n : Nat) (ends at_ : Nat → Nat) : Nat → Nat := fun z => if z < n then n + ends z else at_ (z - n)
def ou : Nat → Nat := fun z => if z % 2 = 0 then z + 1 else z - 1
structure Perm2 (n : Nat) (ends at_ : Nat → Nat) : Prop where
  el : ∀ s, s < n → ends s < n
  al : ∀ q, q < n → at_ q < n
  ae : ∀ s, s < n → at_ (ends s) = s
  ea : ∀ q, q < n → ends (at_ q) = q
theorem two_of {n : Nat} {ends at_ : Nat → Nat} (h : Perm2 n ends at_) (hn : n % 2 = 0) : Two (2 * n) (po n ends at_) ou := by
  have h2 : ∀ z, z < 2 * n → ¬ z < n → z - n < n := fun z h1 h2 => by omega
  refine ⟨fun z hz => ?_, fun z hz => ?_, fun z hz => ?_, fun z hz => ?_, fun z hz => ?_, fun z hz => ?_⟩
  · unfold po
    by_cases e : z < n
    · rw [if_pos e]; have := h.el z e; omega
    · rw [if_neg e]; have := h.al _ (h2 z hz e); omega
  · unfold ou; split <;> omega
  · unfold po
    by_cases e : z < n
    · rw [if_pos e, if_neg (by omega), Nat.add_sub_cancel_left]; exact h.ae z e
    · have := h.al _ (h2 z hz e)
      rw [if_neg e, if_pos this, h.ea _ (h2 z hz e)]; omega
  · unfold ou; split <;> split <;> omega
  · unfold po
    by_cases e : z < n
    · rw [if_pos e]; omega
    · have := h.al _ (h2 z hz e)
      rw [if_neg e]; omega
  · unfold ou; split <;> omega
/-- The pairs above and below, in turn. -/
def prs (at_ : Nat → Nat) : Nat → Nat → List (Nat × Nat)
  | 0, _ => []
  | d + 1, k => (k, k + 1) :: (at_ k, at_ (k + 1)) :: prs at_ d (k + 2)
theorem mem_prs {at_ : Nat → Nat} : ∀ {d k : Nat} {q : Nat × Nat}, q ∈ prs at_ d k → ∃ j, j % 2 = k % 2 ∧ k ≤ j ∧ j + 1 < k + 2 * d ∧ (q = (j, j + 1) ∨ q = (at_ j, at_ (j + 1)))
  | d + 1, k, q, h => by
    simp only [prs, List.mem_cons] at h
    rcases h with h | h | h
    · exact ⟨k, rfl, by omega, by omega, Or.inl h⟩
    · exact ⟨k, rfl, by omega, by omega, Or.inr h⟩
    · obtain ⟨j, h1, h2, h3, h4⟩ := mem_prs h
      exact ⟨j, by omega, by omega, by omega, h4⟩
theorem prs_mem {at_ : Nat → Nat} : ∀ {d k j : Nat}, j % 2 = k % 2 → k ≤ j → j + 1 < k + 2 * d → (j, j + 1) ∈ prs at_ d k ∧ (at_ j, at_ (j + 1)) ∈ prs at_ d k
  | 0, k, j, _, _, h3 => by omega
  | d + 1, k, j, h1, h2, h3 => by
    by_cases e : j = k
    · subst e; simp [prs]
    · obtain ⟨a, b⟩ := prs_mem (at_ := at_) (d := d) (k := k + 2) (j := j) (by omega) (by omega) (by omega)
      simp [prs, a, b]
theorem plat_law {n : Nat} {ends at_ : Nat → Nat} (h : Perm2 n ends at_) (h0 : 2 ≤ n) (hn : n % 2 = 0) (k : Nat) (hk : 2 * n ≤ k) :
    pcnt (po n ends at_) ou k (2 * n) 0 (fun _ => false) 0 = dcount ((List.range n).map (mgs (prs at_ (n / 2) 0) Int.ofNat)) := by
  have T := two_of h hn
  obtain ⟨M, lab, L⟩ := pcnt_lab T k hk (2 * n) 0 (fun _ => false) 0 (fun _ => 0) (by omega)
    ⟨fun z _ h => h, fun z _ h => h, fun z _ h => by simp at h, fun z _ h => by simp at h, fun z _ h => by simp at h, fun i hi => by omega, fun z hz => by omega, fun H _ _ z z' _ _ h => by simp at h⟩
  obtain ⟨c, hc⟩ : ∃ c, pcnt (po n ends at_) ou k (2 * n) 0 (fun _ => false) 0 = c := ⟨_, rfl⟩
  rw [hc] at L ⊢
  have top : ∀ z, z < n → z < 2 * n := fun z hz => by omega
  -- the labels on strands
  have e1 : dcount (((List.range n).map lab).map Int.ofNat) = c := by
    refine dcount_all c _ (fun a ha => ?_) (fun i hi => ?_)
    · obtain ⟨z, hz, rfl⟩ := List.mem_map.1 ha
      simp only [List.mem_range] at hz
      exact L.lt z (top z hz) (L.done z (top z hz))
    · obtain ⟨s, hs, hm, rfl⟩ := L.all i hi
      by_cases e : s < n
      · exact List.mem_map.2 ⟨s, by simp [e], rfl⟩
      · have h3 : po n ends at_ s = at_ (s - n) := by unfold po; rw [if_neg e]
        exact List.mem_map.2 ⟨at_ (s - n), by simp; exact h.al _ (by omega), by rw [← h3]; exact L.lp s hs hm⟩
  rw [← e1, List.map_map]
  refine dcount_congr _ _ _ fun a ha b hb => ?_
  simp only [List.mem_range] at ha hb
  have all : ∀ z, z < 2 * n → M z = true := fun z hz => L.done z hz
  have pz : ∀ q, q < n → lab (at_ q) = lab (n + q) := fun q hq => by
    have h3 : po n ends at_ (n + q) = at_ q := by unfold po; rw [if_neg (by omega), Nat.add_sub_cancel_left]
    rw [← h3]; exact L.lp (n + q) (by omega) (all _ (by omega))
  constructor
  · intro hl
    have hl' : lab a = lab b := by
      have : Int.ofNat (lab a) = Int.ofNat (lab b) := hl
      exact Int.ofNat.inj this
    -- labels of the groups, told at points
    obtain ⟨g, hg⟩ : ∃ g : Nat → Int, mgs (prs at_ (n / 2) 0) Int.ofNat = g := ⟨_, rfl⟩
    rw [hg]
    have gb : ∀ q ∈ prs at_ (n / 2) 0, g q.1 = g q.2 := fun q hq => by rw [← hg]; exact mgs_both _ _ q hq
    have nn : ∀ s, s < n → 0 ≤ g s := fun s hs => by
      rw [← hg]
      exact mgs_nn _ _ s (fun a => Int.natCast_nonneg a)
    let H : Nat → Nat := fun z => if z < n then (g z).toNat else (g (at_ (z - n))).toNat
    have hp : ∀ z, z < 2 * n → H (po n ends at_ z) = H z := fun z hz => by
      simp only [H, po]
      by_cases e : z < n
      · rw [if_pos e, if_pos e, if_neg (by omega), Nat.add_sub_cancel_left, h.ae z e]
      · have := h.al _ (by omega : z - n < n)
        rw [if_neg e, if_neg e, if_pos this]
    have ho : ∀ z, z < 2 * n → H (ou z) = H z := fun z hz => by
      simp only [H, ou]
      by_cases e2 : z % 2 = 0
      · rw [if_pos e2]
        by_cases e : z < n
        · rw [if_pos e, if_pos (by omega)]
          rw [gb _ (prs_mem (at_ := at_) (d := n / 2) (k := 0) (j := z) (by omega) (by omega) (by omega)).1]
        · rw [if_neg e, if_neg (by omega)]
          rw [gb _ (prs_mem (at_ := at_) (d := n / 2) (k := 0) (j := z - n) (by omega) (by omega) (by omega)).2, show z - n + 1 = z + 1 - n by omega]
      · rw [if_neg e2]
        by_cases e : z < n
        · rw [if_pos e, if_pos (by omega)]
          have := gb _ (prs_mem (at_ := at_) (d := n / 2) (k := 0) (j := z - 1) (by omega) (by omega) (by omega)).1
          simp only at this
          rw [this, show z - 1 + 1 = z by omega]
        · rw [if_neg e, if_neg (by omega)]
          have := gb _ (prs_mem (at_ := at_) (d := n / 2) (k := 0) (j := z - 1 - n) (by omega) (by omega) (by omega)).2
          simp only at this
          rw [this, show z - 1 - n + 1 = z - n by omega]
    have := L.same H hp ho a b (top a ha) (top b hb) (all _ (top a ha)) (all _ (top b hb)) hl'
    simp only [H, if_pos ha, if_pos hb] at this
    have h1 := nn a ha
    have h2 := nn b hb
    omega
  · intro hl
    have : lab a = lab b := by
      refine mgs_le (n := n) (H := lab) (prs at_ (n / 2) 0) Int.ofNat (fun q hq => ?_) (fun a b _ _ h => by have : a = b := Int.ofNat.inj h; rw [this]) a b ha hb hl
      obtain ⟨j, h1, h2, h3, h4⟩ := mem_prs hq
      have hj : j + 1 < n := by omega
      have hoj : ou j = j + 1 := by unfold ou; rw [if_pos (by omega)]
      have hon : ou (n + j) = n + j + 1 := by unfold ou; rw [if_pos (by omega)]
      rcases h4 with e | e
      · subst e
        refine ⟨by simp; omega, hj, ?_⟩
        have := L.lo j (by omega) (all _ (by omega))
        rw [hoj] at this
        exact this.symm
      · subst e
        refine ⟨h.al _ (by omega), h.al _ hj, ?_⟩
        have := L.lo (n + j) (by omega) (all _ (by omega))
        rw [hon] at this
        simp only
        rw [pz j (by omega), pz (j + 1) hj]
        exact this.symm
    show Int.ofNat (lab a) = Int.ofNat (lab b)
    rw [this]
end plat
end Go.Proofs.Ytmmoimofjomnlaa.LibPlat
