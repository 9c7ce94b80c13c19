/- Rows of rows of the call's own: one number stored, one row put, two rows exchanged. -/
import Derived.Test.YtifmdgffimckgaaWWords
import Derived.Test.YtifmdgffimckgaaWApart
import Derived.Test.YtifmdgffimckgaaWKept
import Derived.Test.YtifmdgffimckgaaWMore
set_option linter.unusedVariables false
set_option linter.unusedSimpArgs false
namespace Go.Proofs.Ytifmdgffimckgaa.LibMx
open Go.RowKit Go.Proofs.YtifmdgffimckgaaW.PrintWords
variable {I IS : TypeId} {W : World} {base n cap : Nat} {ok : Nat → Prop} {ad : Addr} {xs : List (List Int)}
/-- Rows of numbers, of the call's own. -/
abbrev Mx (I IS : TypeId) (W : World) (base : Nat) (ok : Nat → Prop) (v : Value) (xs : List (List Int)) : Prop := Kd.S (Kd.slice I (Kd.int .i64)) IS W base ok v xs
theorem mx_head (h : Mx I IS W base ok (.slice (some ad) n cap) xs) : ∃ g, ad = ⟨g, 0, none⟩ := Kd.R_head (Kd.S_R h)
theorem mx_len {A : Option Addr} (h : Mx I IS W base ok (.slice A n cap) xs) : n = xs.length := (Kd.S_reads' h).1
/-- Row i: where it lies, its numbers, and a number stored there. -/
theorem mx_at {G : Nat} (h : Mx I IS W base ok (.slice (some ⟨G, 0, none⟩) n cap) xs) (i : Int) (h0 : 0 ≤ i) (h1 : i < n) (hp : 0 < (xs.getD i.toNat []).length) :
    ∃ gr cr, W.cell? ⟨G, i.toNat, none⟩ = some (.slice (some ⟨gr, 0, none⟩) (xs.getD i.toNat []).length cr) ∧ W.frozen? ⟨G, i.toNat, none⟩ = false ∧ base ≤ gr ∧ ok gr ∧ gr ≠ G ∧
      (∀ j : Int, 0 ≤ j → j < (xs.getD i.toNat []).length → W.cell? ⟨gr, j.toNat, none⟩ = some (.int .i64 (rd (xs.getD i.toNat []) j)) ∧ W.frozen? ⟨gr, j.toNat, none⟩ = false) ∧
      (∀ (j v : Int), 0 ≤ j → j < (xs.getD i.toNat []).length → Mx I IS (W.setCell ⟨gr, j.toNat, none⟩ (.int .i64 v)) base ok (.slice (some ⟨G, 0, none⟩) n cap) (xs.set i.toNat ((xs.getD i.toNat []).set j.toNat v))) := by
  obtain ⟨oki, c, hcl, hM, hcc, hoki, hback⟩ := Kd.S_borrow h [] i h0 h1
  obtain ⟨ve, rfl, ge⟩ := hM
  obtain ⟨g, co, rfl, gb, gl, _, _⟩ := Kd.R_form ge hp
  have hv := hcc 0 _ rfl
  rw [Nat.add_zero, show (Kd.slice I (Kd.int .i64)).sz = 1 from rfl, Nat.mul_one, add_plain] at hv
  have hk := ge.1 g rfl
  have hne : g ≠ G := fun e => (hoki g hk).2 (by rw [e]; rfl)
  obtain ⟨_, _, _, _, hfr⟩ := Kd.R_elem (Kd.S_R h) [] i h0 h1
  have hfr0 := hfr 0
  rw [Nat.add_zero, show (Kd.slice I (Kd.int .i64)).sz = 1 from rfl, Nat.mul_one] at hfr0
  refine ⟨g, co, hv, hfr0, gb, (hoki g hk).1, hne, fun j hj0 hj1 => ?_, fun j v hj0 hj1 => ?_⟩
  · exact Kd.R_celln 0 ge j hj0 hj1
  · have hP := Kd.R_putg ge j v
    exact hback hP.2 (fun k e_ => by injection e_ with e_; subst e_; exact hk) (Kd.M_row hP.1)
/-- A row of nobody's is put in the place of row i. -/
theorem mx_put {G : Nat} {okg : Nat → Prop} {v : Value} {q : List Int} (h : Mx I IS W base (fun k => ok k ∧ ¬ okg k) (.slice (some ⟨G, 0, none⟩) n cap) xs) (i : Int) (h0 : 0 ≤ i) (h1 : i < n) (hr : Kd.R (Kd.int .i64) I W base okg v q) (ho : ∀ k, okg k → ok k) (hG : ¬ okg G) :
    Mx I IS (W.setCell ⟨G, i.toNat, none⟩ v) base ok (.slice (some ⟨G, 0, none⟩) n cap) (xs.set i.toNat q) := by
  obtain ⟨oki, c, hcl, hM, hcc, hfr, hoki, hH⟩ := Kd.S_elem h [] i h0 h1
  have HP := Kd.S_seg (ok := ok) (okg := okg) hH h0 h1 (seg := [v]) (j := 0) (show 1 ≤ 1 from by decide) (x' := q) (by
    obtain ⟨ve, rfl, ge⟩ := hM
    exact Kd.M_row hr) (fun k_ h_ => Or.inr h_) (fun k_ h_ => ⟨ho k_ h_, fun e => hG (by rw [← e]; exact h_)⟩)
  have e : i.toNat * (Kd.slice I (Kd.int .i64)).sz + 0 = i.toNat := by
    rw [show (Kd.slice I (Kd.int .i64)).sz = 1 from rfl, Nat.mul_one, Nat.add_zero]
  simp only [e] at HP
  exact HP.1
/-- Rows i and j exchanged: both cells stored, one after the other. -/
theorem mx_swap {G : Nat} (h : Mx I IS W base ok (.slice (some ⟨G, 0, none⟩) n cap) xs) (i j : Nat) (hi : i < n) (hj : j < n) (hij : i ≠ j) :
    ∃ vi vj : Value, W.cell? ⟨G, i, none⟩ = some vi ∧ W.cell? ⟨G, j, none⟩ = some vj ∧ W.frozen? ⟨G, i, none⟩ = false ∧ W.frozen? ⟨G, j, none⟩ = false ∧ base ≤ G ∧
      (W.setCell ⟨G, i, none⟩ vj).cell? ⟨G, j, none⟩ = some vj ∧ (W.setCell ⟨G, i, none⟩ vj).frozen? ⟨G, j, none⟩ = false ∧
      Mx I IS ((W.setCell ⟨G, i, none⟩ vj).setCell ⟨G, j, none⟩ vi) base ok (.slice (some ⟨G, 0, none⟩) n cap) ((xs.set i (xs.getD j [])).set j (xs.getD i [])) := by
  have hn := mx_len h
  obtain ⟨f, h0, inner, ho, hr⟩ := h
  rw [List.length_zipIdx] at ho
  obtain ⟨hl, hcur⟩ := ho
  rcases hcur with ⟨hv, _⟩ | ⟨G', cap', cur, hv, hb, hheap, hnc, hcm, hcs, htk⟩
  · cases hv
  injection hv with hG hn' hcap
  injection hG with hG
  injection hG with hG _ _
  subst hG
  subst hcap
  have hl1 : inner.length = xs.length := by rw [hl]; show _ * 1 = _; omega
  have hi' : i < inner.length := by omega
  have hj' : j < inner.length := by omega
  have hcsz : cur.size = cap := by rw [hcs]; show _ * 1 = _; omega
  have hget : ∀ m, m < n → cur[m]? = inner[m]? := fun m hm => by
    rw [← htk]
    show cur[m]? = (cur.toList.take (xs.length * 1))[m]?
    rw [List.getElem?_take, if_pos (by omega)]
    simp
  have ci := hget i hi
  have cj := hget j hj
  rw [List.getElem?_eq_getElem hi'] at ci
  rw [List.getElem?_eq_getElem hj'] at cj
  refine ⟨inner[i], inner[j], (blk_cell hheap i).trans ci, (blk_cell hheap j).trans cj, blk_frozen hheap i, blk_frozen hheap j, hb, (blk_cell (blk_set hheap i inner[j]) j).trans (by rw [Array.getElem?_setIfInBounds, if_neg hij]; exact cj), blk_frozen (blk_set hheap i inner[j]) j, ?_⟩
  have hh1 := blk_set (blk_set hheap i inner[j]) j inner[i]
  let f' : Nat → Nat := fun k => if f k = i then j else if f k = j then i else f k
  have hf' : ∀ k m, m < xs.length → (f' k = m ↔ f k = if m = i then j else if m = j then i else m) := by
    intro k m _
    show (if f k = i then j else if f k = j then i else f k) = m ↔ _
    by_cases e1 : f k = i
    · rw [if_pos e1]
      by_cases e2 : m = i
      · rw [if_pos e2]; constructor
        · intro h3; omega
        · intro h3; omega
      · rw [if_neg e2]
        by_cases e3 : m = j
        · rw [if_pos e3]; constructor
          · intro _; exact e1
          · intro _; exact e3.symm
        · rw [if_neg e3]; constructor
          · intro h3; omega
          · intro h3; omega
    · rw [if_neg e1]
      by_cases e1b : f k = j
      · rw [if_pos e1b]
        by_cases e2 : m = i
        · rw [if_pos e2]; constructor
          · intro _; exact e1b
          · intro _; exact e2.symm
        · rw [if_neg e2]
          by_cases e3 : m = j
          · rw [if_pos e3]; constructor
            · intro h3; omega
            · intro h3; omega
          · rw [if_neg e3]; constructor
            · intro h3; omega
            · intro h3; omega
      · rw [if_neg e1b]
        by_cases e2 : m = i
        · rw [if_pos e2]; constructor
          · intro h3; omega
          · intro h3; omega
        · rw [if_neg e2]
          by_cases e3 : m = j
          · rw [if_pos e3]; constructor
            · intro h3; omega
            · intro h3; omega
          · rw [if_neg e3]
  refine ⟨f', h0, (inner.set i inner[j]).set j inner[i], ⟨?_, .inr ⟨G, cap, _, ?_, hb, hh1, ?_, hcm, ?_, ?_⟩⟩, ?_, ?_⟩
  · simp only [List.length_set, List.length_zipIdx]; exact hl
  · rw [List.length_zipIdx, List.length_set, List.length_set, ← hn]
  · rw [List.length_zipIdx, List.length_set, List.length_set]; exact hnc
  · simp only [Array.size_setIfInBounds]; exact hcs
  · simp only [List.length_zipIdx, List.length_set, Array.toList_setIfInBounds]
    rw [List.take_set, List.take_set]
    have : List.take (xs.length * (Kd.tag f' (Kd.slice I (Kd.int .i64))).sz) cur.toList = inner := htk
    rw [this]
  · simp only [List.length_set, List.length_zipIdx]; exact (show inner.length = xs.length * 1 by omega)
  · intro m p hm
    have hml : m < xs.length := by
      have := (List.getElem?_eq_some_iff.1 hm).1
      simpa using this
    rw [List.getElem?_zipIdx, Nat.zero_add] at hm
    obtain ⟨q, hq, rfl⟩ := Option.map_eq_some_iff.1 hm
    obtain ⟨s, hs⟩ : ∃ s, (if m = i then j else if m = j then i else m) = s := ⟨_, rfl⟩
    have hsl : s < xs.length := by rw [← hs]; split <;> (try split) <;> omega
    have hqs : q = xs[s] := by
      rw [List.getElem?_set] at hq
      by_cases e3 : j = m
      · subst e3
        rw [if_neg (Ne.symm hij), if_pos rfl] at hs
        subst hs
        rw [if_pos rfl, if_pos (by simpa using hml), Option.some.injEq] at hq
        rw [← hq, List.getD_eq_getElem?_getD, List.getElem?_eq_getElem hsl]
        rfl
      · rw [if_neg e3, List.getElem?_set] at hq
        by_cases e2 : i = m
        · subst e2
          rw [if_pos rfl] at hs
          subst hs
          rw [if_pos rfl, if_pos hml, Option.some.injEq] at hq
          rw [← hq, List.getD_eq_getElem?_getD, List.getElem?_eq_getElem hsl]
          rfl
        · rw [if_neg (Ne.symm e2), if_neg (Ne.symm e3)] at hs
          subst hs
          rw [if_neg e2, List.getElem?_eq_getElem hsl, Option.some.injEq] at hq
          exact hq.symm
    have hold := hr.2 s (xs[s], s) (Kd.zip_at (List.getElem?_eq_getElem hsl))
    have hcells : ((((inner.set i inner[j]).set j inner[i]).drop (m * (Kd.tag f' (Kd.slice I (Kd.int .i64))).sz)).take (Kd.tag f' (Kd.slice I (Kd.int .i64))).sz) = ((inner.drop (s * (Kd.tag f (Kd.slice I (Kd.int .i64))).sz)).take (Kd.tag f (Kd.slice I (Kd.int .i64))).sz) := by
      show (((inner.set i inner[j]).set j inner[i]).drop (m * 1)).take 1 = (inner.drop (s * 1)).take 1
      rw [Nat.mul_one, Nat.mul_one]
      have hm2 : m < ((inner.set i inner[j]).set j inner[i]).length := by simp; omega
      have hs2 : s < inner.length := by omega
      rw [List.drop_eq_getElem_cons hm2, List.drop_eq_getElem_cons hs2, List.take_succ_cons, List.take_succ_cons, List.take_zero, List.take_zero]
      congr 1
      rw [List.getElem_set]
      by_cases e3 : j = m
      · subst e3
        rw [if_neg (Ne.symm hij), if_pos rfl] at hs
        subst hs
        rw [if_pos rfl]
      · rw [if_neg e3, List.getElem_set]
        by_cases e2 : i = m
        · subst e2
          rw [if_pos rfl] at hs
          subst hs
          rw [if_pos rfl]
        · rw [if_neg (Ne.symm e2), if_neg (Ne.symm e3)] at hs
          subst hs
          rw [if_neg e2]
    rw [hcells, hqs]
    refine (Kd.slice I (Kd.int .i64)).M_mono (fun k hk => ?_) ((Kd.slice I (Kd.int .i64)).M_move (w1 := (W.setCell ⟨G, i, none⟩ inner[j]).setCell ⟨G, j, none⟩ inner[i]) (fun k hk => ?_) hold)
    · exact ⟨hk.1, (hf' k m hml).2 (by rw [hs]; exact hk.2)⟩
    · have hkG : k ≠ G := fun e => hk.1.2 (by rw [e]; rfl)
      rw [Below.heap_setCell _ _ _ _ (by exact hkG), Below.heap_setCell _ _ _ _ (by exact hkG)]
namespace iv
abbrev LL := List (List Int)
def gt (L : LL) (i j : Int) : Int := rd (L.getD i.toNat []) j
def pt (L : LL) (i j v : Int) : LL := L.set i.toNat ((L.getD i.toNat []).set j.toNat v)
end iv
/-- Row i of a matrix whose rows are all of length m. -/
theorem mx_atm {G m : Nat} (h : Mx I IS W base ok (.slice (some ⟨G, 0, none⟩) n cap) xs) (i : Int) (h0 : 0 ≤ i) (h1 : i < n) (hm : (xs.getD i.toNat []).length = m) (hp : 0 < m) :
    ∃ gr cr, W.cell? ⟨G, i.toNat, none⟩ = some (.slice (some ⟨gr, 0, none⟩) m cr) ∧ W.frozen? ⟨G, i.toNat, none⟩ = false ∧ base ≤ gr ∧ ok gr ∧ gr ≠ G ∧
      (∀ j : Int, 0 ≤ j → j < m → W.cell? ⟨gr, j.toNat, none⟩ = some (.int .i64 (iv.gt xs i j)) ∧ W.frozen? ⟨gr, j.toNat, none⟩ = false) ∧
      (∀ (j v : Int), 0 ≤ j → j < m → Mx I IS (W.setCell ⟨gr, j.toNat, none⟩ (.int .i64 v)) base ok (.slice (some ⟨G, 0, none⟩) n cap) (xs.set i.toNat ((xs.getD i.toNat []).set j.toNat v))) := by
  subst hm
  exact mx_at h i h0 h1 hp
/-- A cell elsewhere is set. -/
theorem mx_far {v : Value} {g : Nat} (h : Mx I IS W base ok v xs) (hg : ¬ ok g) (j : Nat) (u : Value) : Mx I IS (W.setCell ⟨g, j, none⟩ u) base ok v xs :=
  Kd.S_far h (fun k hk e => hg (by have e' : k = g := e; rw [← e']; exact hk)) u
theorem mx_store {G g m cr : Nat} (h : Mx I IS W base ok (.slice (some ⟨G, 0, none⟩) n cap) xs) (i : Int) (h0 : 0 ≤ i) (h1 : i < n) (hm : (xs.getD i.toNat []).length = m) (hp : 0 < m)
    (hz : W.cell? ⟨G, i.toNat, none⟩ = some (.slice (some ⟨g, 0, none⟩) m cr)) (j v : Int) (g0 : 0 ≤ j) (g1 : j < m) :
    Mx I IS (W.setCell ⟨g, j.toNat, none⟩ (.int .i64 v)) base ok (.slice (some ⟨G, 0, none⟩) n cap) (xs.set i.toNat ((xs.getD i.toNat []).set j.toNat v)) ∧ ok g ∧ base ≤ g := by
  obtain ⟨gr, cr', hz', _, hb, hk, _, _, hput⟩ := mx_atm h i h0 h1 hm hp
  have e := hz.symm.trans hz'
  injection e with e
  injection e with e _ _
  injection e with e
  injection e with e _ _
  subst e
  exact ⟨hput j v g0 g1, hk, hb⟩
theorem drew_self (w : World) : w.drew = w.drew := rfl
theorem mx_ok {G : Nat} (h : Mx I IS W base ok (.slice (some ⟨G, 0, none⟩) n cap) xs) : ok G := (Kd.S_R h).1 G rfl
namespace iv
def swp (L : LL) (i j : Int) : LL := (L.set i.toNat (L.getD j.toNat [])).set j.toNat (L.getD i.toNat [])
def inF (x : Int) : Int := Int.tmod (wrap64 (Int.tmod x 10007 + 10007)) 10007
def sc (b c : Int) : Nat → Int → LL → LL
  | 0, _, L => L
  | n + 1, y, L => sc b c n (y + 1) (pt L c y (Int.tmod (wrap64 (gt L c y * b)) 10007))
def el (f x c : Int) : Nat → Int → LL → LL
  | 0, _, L => L
  | n + 1, y, L => el f x c n (y + 1) (pt L x y (inF (wrap64 (gt L x y - wrap64 (f * gt L c y)))))
def rws (m : Nat) (c : Int) : Nat → Int → LL → LL → LL × LL
  | 0, _, L, R => (L, R)
  | n + 1, x, L, R => if x = c then rws m c n (x + 1) L R else if gt L x c = 0 then rws m c n (x + 1) L R else rws m c n (x + 1) (el (gt L x c) x c m 0 L) (el (gt L x c) x c m 0 R)
def piv (c : Int) : Nat → Int → LL → Int
  | 0, t, _ => t
  | n + 1, t, L => if gt L t c = 0 then piv c n (t + 1) L else t
def go2 (inv : Int → Option Int) (m : Nat) (nx : Int → LL → LL → Int → Option (LL × Int)) (c : Int) (L R : LL) (p : Int) : Option (LL × Int) :=
  (inv (gt L c c)).bind fun b => nx (c + 1) (rws m c m 0 (sc b c m 0 L) (sc b c m 0 R)).1 (rws m c m 0 (sc b c m 0 L) (sc b c m 0 R)).2 (Int.tmod (wrap64 (p * gt L c c)) 10007)
def go (inv : Int → Option Int) (m : Nat) : Nat → Int → LL → LL → Int → Option (LL × Int)
  | 0, _, _, R, p => some (R, p)
  | n + 1, c, L, R, p => if piv c (n + 1) c L = (m : Int) then some ([], 0) else if piv c (n + 1) c L = c then go2 inv m (go inv m n) c L R p else go2 inv m (go inv m n) c (swp L (piv c (n + 1) c L) c) (swp R (piv c (n + 1) c L) c) (inF (wrap64 (-p)))
def Sq (m : Nat) (L : LL) : Prop := L.length = m ∧ ∀ i : Nat, i < m → (L.getD i []).length = m
instance (m : Nat) (L : LL) : Decidable (Sq m L) := by unfold Sq; infer_instance
theorem go2_mono (inv inv' : Int → Option Int) (m : Nat) (nx nx' : Int → LL → LL → Int → Option (LL × Int)) (h : ∀ x, LeO (inv x) (inv' x)) (hn : ∀ c L R p, LeO (nx c L R p) (nx' c L R p)) (c : Int) (L R : LL) (p : Int) : LeO (go2 inv m nx c L R p) (go2 inv' m nx' c L R p) := by
  unfold go2
  exact LeO.bind (h _) (fun _ => hn _ _ _ _)
theorem go_mono (inv inv' : Int → Option Int) (m : Nat) (h : ∀ x, LeO (inv x) (inv' x)) : ∀ (n : Nat) (c : Int) (L R : LL) (p : Int), LeO (go inv m n c L R p) (go inv' m n c L R p)
  | 0, _, _, _, _ => LeO.refl _
  | n + 1, c, L, R, p => by
    unfold go
    exact LeO.ite (LeO.refl _) (LeO.ite (go2_mono _ _ _ _ _ h (fun _ _ _ _ => go_mono inv inv' m h n _ _ _ _) _ _ _ _) (go2_mono _ _ _ _ _ h (fun _ _ _ _ => go_mono inv inv' m h n _ _ _ _) _ _ _ _))
theorem Sq.at {m : Nat} {L : LL} (h : Sq m L) (i : Int) (h0 : 0 ≤ i) (h1 : i < m) : (L.getD i.toNat []).length = m := h.2 i.toNat (by omega)
theorem getD_set (L : LL) (i j : Nat) (r : List Int) (hi : i < L.length) : (L.set i r).getD j [] = if i = j then r else L.getD j [] := by
  rw [List.getD_eq_getElem?_getD, List.getElem?_set]
  by_cases e : i = j
  · subst e; rw [if_pos rfl, if_pos hi, if_pos rfl]; rfl
  · rw [if_neg e, if_neg e, List.getD_eq_getElem?_getD]
theorem Sq.set {m : Nat} {L : LL} (h : Sq m L) (i : Nat) (hi : i < m) {r : List Int} (hr : r.length = m) : Sq m (L.set i r) := by
  refine ⟨by rw [List.length_set]; exact h.1, fun j hj => ?_⟩
  rw [getD_set L i j r (by rw [h.1]; exact hi)]
  split
  · exact hr
  · exact h.2 j hj
theorem Sq.pt {m : Nat} {L : LL} (h : Sq m L) (i j v : Int) (h0 : 0 ≤ i) (h1 : i < m) : Sq m (pt L i j v) :=
  h.set i.toNat (by omega) (by rw [List.length_set]; exact h.at i h0 h1)
theorem Sq.swp {m : Nat} {L : LL} (h : Sq m L) (i j : Int) (h0 : 0 ≤ i) (h1 : i < m) (g0 : 0 ≤ j) (g1 : j < m) : Sq m (swp L i j) :=
  (h.set i.toNat (by omega) (h.at j g0 g1)).set j.toNat (by omega) (h.at i h0 h1)
theorem piv_range (c : Int) (L : LL) : ∀ (n : Nat) (t : Int), t ≤ piv c n t L ∧ piv c n t L ≤ t + n
  | 0, t => by simp [piv]
  | n + 1, t => by
    unfold piv
    split
    · have := piv_range c L n (t + 1); omega
    · omega
end iv
/-- Two worlds of one heap. -/
theorem mx_heap {W' : World} {v : Value} (h : Mx I IS W base ok v xs) (e : W'.heap = W.heap) : Mx I IS W' base ok v xs := Kd.S_move h (fun k _ => by rw [e])
/-- The block of the headers. -/
theorem mx_block {G : Nat} (h : Mx I IS W base ok (.slice (some ⟨G, 0, none⟩) n cap) xs) (hp : 0 < n) : ∃ cells : Array Value, W.heap[G]? = some (.cells cells IS (0, 0)) :=
  Kd.S_typed h G rfl
/-- Another cell of a block stays when one is set. -/
theorem blk_other {G t : Nat} {cells : Array Value} (hb : W.heap[G]? = some (.cells cells t (0, 0))) {i j : Nat} (hij : i ≠ j) {u v : Value} (hc : W.cell? ⟨G, j, none⟩ = some u) : (W.setCell ⟨G, i, none⟩ v).cell? ⟨G, j, none⟩ = some u := by
  refine (blk_cell (blk_set hb i v) j).trans ?_
  rw [Array.getElem?_setIfInBounds, if_neg hij]
  exact (blk_cell hb j).symm.trans hc
namespace sv
open iv
def scl (b : Int) (r : List Int) : List Int := r.map (fun v => Int.tmod (wrap64 (v * b)) 10007)
def elr (f : Int) (r o : List Int) : List Int := List.zipWith (fun v u => inF (wrap64 (v - wrap64 (f * u)))) r o
def rw2 (c : Int) (own : List Int) : Nat → Int → LL → LL
  | 0, _, L => L
  | n + 1, i, L => if i = c then rw2 c own n (i + 1) L else if gt L i c = 0 then rw2 c own n (i + 1) L else rw2 c own n (i + 1) (L.set i.toNat (elr (gt L i c) (L.getD i.toNat []) own))
def slv2 (inv : Int → Option Int) (m : Nat) (nx : Int → LL → Int → Option (Int × LL)) (c : Int) (L : LL) (p : Int) : Option (Int × LL) :=
  (inv (gt L c c)).bind fun b => nx (c + 1) (rw2 c (scl b (L.getD c.toNat [])) m 0 (L.set c.toNat (scl b (L.getD c.toNat [])))) (Int.tmod (wrap64 (p * gt L c c)) 10007)
def slv (inv : Int → Option Int) (m : Nat) : Nat → Int → LL → Int → Option (Int × LL)
  | 0, _, L, p => some (p, L.map (List.drop m))
  | n + 1, c, L, p => if piv c (n + 1) c L = (m : Int) then some (0, []) else if piv c (n + 1) c L = c then slv2 inv m (slv inv m n) c L p else slv2 inv m (slv inv m n) c (swp L (piv c (n + 1) c L) c) (inF (wrap64 (-p)))
/-- The rows at the start: a's, each with a row of the unit matrix behind it. -/
def start (a : LL) : LL := a.zipIdx.map (fun r => r.1 ++ (List.replicate a.length (0 : Int)).set r.2 1)
theorem slv2_mono (inv inv' : Int → Option Int) (m : Nat) (nx nx' : Int → LL → Int → Option (Int × LL)) (h : ∀ x, LeO (inv x) (inv' x)) (hn : ∀ c L p, LeO (nx c L p) (nx' c L p)) (c : Int) (L : LL) (p : Int) : LeO (slv2 inv m nx c L p) (slv2 inv' m nx' c L p) := by
  unfold slv2
  exact LeO.bind (h _) (fun _ => hn _ _ _)
theorem slv_mono (inv inv' : Int → Option Int) (m : Nat) (h : ∀ x, LeO (inv x) (inv' x)) : ∀ (n : Nat) (c : Int) (L : LL) (p : Int), LeO (slv inv m n c L p) (slv inv' m n c L p)
  | 0, _, _, _ => LeO.refl _
  | n + 1, c, L, p => by
    unfold slv
    exact LeO.ite (LeO.refl _) (LeO.ite (slv2_mono _ _ _ _ _ h (fun _ _ _ => slv_mono inv inv' m h n _ _ _) _ _ _) (slv2_mono _ _ _ _ _ h (fun _ _ _ => slv_mono inv inv' m h n _ _ _) _ _ _))
/-- m rows of d numbers. -/
def Rq (m d : Nat) (L : LL) : Prop := L.length = m ∧ ∀ i : Nat, i < m → (L.getD i []).length = d
theorem Rq.at {m d : Nat} {L : LL} (h : Rq m d L) (i : Int) (h0 : 0 ≤ i) (h1 : i < m) : (L.getD i.toNat []).length = d := h.2 i.toNat (by omega)
theorem Rq.set {m d : Nat} {L : LL} (h : Rq m d L) (i : Nat) (hi : i < m) {r : List Int} (hr : r.length = d) : Rq m d (L.set i r) := by
  refine ⟨by rw [List.length_set]; exact h.1, fun j hj => ?_⟩
  rw [getD_set L i j r (by rw [h.1]; exact hi)]
  split
  · exact hr
  · exact h.2 j hj
theorem Rq.swp {m d : Nat} {L : LL} (h : Rq m d L) (i j : Int) (h0 : 0 ≤ i) (h1 : i < m) (g0 : 0 ≤ j) (g1 : j < m) : Rq m d (swp L i j) :=
  (h.set i.toNat (by omega) (h.at j g0 g1)).set j.toNat (by omega) (h.at i h0 h1)
theorem start_len (a : LL) : (start a).length = a.length := by simp [start]
theorem start_Rq {m : Nat} {a : LL} (h : Sq m a) : Rq m (2 * m) (start a) := by
  refine ⟨by rw [start_len]; exact h.1, fun i hi => ?_⟩
  have hl : i < a.length := by rw [h.1]; exact hi
  have h2 := h.2 i hi
  rw [List.getD_eq_getElem?_getD, List.getElem?_eq_getElem hl] at h2
  rw [List.getD_eq_getElem?_getD, start, List.getElem?_map, List.getElem?_zipIdx, List.getElem?_eq_getElem hl]
  have h3 : a[i].length = m := h2
  simp [h3, h.1]
  omega
theorem start_at (a : LL) (i : Nat) (h : i < a.length) : (start a).getD i [] = a.getD i [] ++ (List.replicate a.length (0 : Int)).set i 1 := by
  rw [List.getD_eq_getElem?_getD, start, List.getElem?_map, List.getElem?_zipIdx, List.getElem?_eq_getElem h, List.getD_eq_getElem?_getD, List.getElem?_eq_getElem h]
  simp
theorem take_snoc {α : Type} (l : List α) (j : Nat) (h : j < l.length) (z : α) : l.take j ++ [l.getD j z] = l.take (j + 1) := by
  rw [List.take_add_one, List.getD_eq_getElem?_getD, List.getElem?_eq_getElem h]
  rfl
theorem scl_len (b : Int) (r : List Int) : (scl b r).length = r.length := by simp [scl]
theorem elr_len (f : Int) (r o : List Int) (h : o.length = r.length) : (elr f r o).length = r.length := by simp [elr, h]
theorem scl_take (b : Int) (r : List Int) (y : Int) (h0 : 0 ≤ y) (h1 : y.toNat < r.length) : (scl b r).take y.toNat ++ [Int.tmod (wrap64 (rd r y * b)) 10007] = (scl b r).take (y + 1).toNat := by
  rw [show (y + 1).toNat = y.toNat + 1 by omega, List.take_add_one]
  congr 1
  unfold scl rd
  rw [List.getElem?_map, List.getD_eq_getElem?_getD, List.getElem?_eq_getElem h1]
  rfl
theorem elr_take (f : Int) (r o : List Int) (y : Int) (h0 : 0 ≤ y) (h1 : y.toNat < r.length) (h2 : y.toNat < o.length) : (elr f r o).take y.toNat ++ [inF (wrap64 (rd r y - wrap64 (f * rd o y)))] = (elr f r o).take (y + 1).toNat := by
  rw [show (y + 1).toNat = y.toNat + 1 by omega, List.take_add_one]
  congr 1
  unfold elr rd
  rw [List.getElem?_zipWith, List.getD_eq_getElem?_getD, List.getD_eq_getElem?_getD, List.getElem?_eq_getElem h1, List.getElem?_eq_getElem h2]
  rfl
theorem map_drop_take (L : LL) (m : Nat) (i : Int) (h0 : 0 ≤ i) (h1 : i.toNat < L.length) : (L.map (List.drop m)).take i.toNat ++ [(L.getD i.toNat []).drop m] = (L.map (List.drop m)).take (i + 1).toNat := by
  rw [show (i + 1).toNat = i.toNat + 1 by omega, List.take_add_one]
  congr 1
  rw [List.getElem?_map, List.getD_eq_getElem?_getD, List.getElem?_eq_getElem h1]
  rfl
end sv
theorem dn_cell {w' : World} {m : Nat} {a : Addr} {u : Value} (h : World.drewN W m = w') (hc : W.cell? a = some u) : w'.cell? a = some u := by subst h; exact hc
theorem dn_frozen {w' : World} {m : Nat} {a : Addr} {u : Bool} (h : World.drewN W m = w') (hc : W.frozen? a = u) : w'.frozen? a = u := by subst h; exact hc
theorem dn_set_cell {w' : World} {m : Nat} {a b : Addr} {u v : Value} (h : World.drewN W m = w') (hc : (W.setCell a v).cell? b = some u) : (w'.setCell a v).cell? b = some u := by subst h; exact hc
theorem dn_set_frozen {w' : World} {m : Nat} {a b : Addr} {v : Value} {u : Bool} (h : World.drewN W m = w') (hc : (W.setCell a v).frozen? b = u) : (w'.setCell a v).frozen? b = u := by subst h; exact hc
theorem dn_set {w' : World} {m : Nat} {a : Addr} {u x : Value} (h : World.drewN W m = w') (hs : Mx I IS (W.setCell a u) base ok x xs) : Mx I IS (w'.setCell a u) base ok x xs := by subst h; exact mx_heap hs rfl
theorem dn_sets {w' : World} {m : Nat} {a b : Addr} {u v x : Value} (h : World.drewN W m = w') (hs : Mx I IS ((W.setCell a u).setCell b v) base ok x xs) : Mx I IS ((w'.setCell a u).setCell b v) base ok x xs := by subst h; exact mx_heap hs rfl
/-- The cell that was set. -/
theorem blk_self {G t : Nat} {cells : Array Value} (hb : W.heap[G]? = some (.cells cells t (0, 0))) {i : Nat} {u v : Value} (hc : W.cell? ⟨G, i, none⟩ = some u) : (W.setCell ⟨G, i, none⟩ v).cell? ⟨G, i, none⟩ = some v := by
  refine (blk_cell (blk_set hb i v) i).trans ?_
  have h := (blk_cell hb i).symm.trans hc
  have hi : i < cells.size := by
    rcases Nat.lt_or_ge i cells.size with h1 | h1
    · exact h1
    · rw [Array.getElem?_eq_none h1] at h; cases h
  rw [Array.getElem?_setIfInBounds, if_pos rfl, if_pos hi]
end Go.Proofs.Ytifmdgffimckgaa.LibMx
