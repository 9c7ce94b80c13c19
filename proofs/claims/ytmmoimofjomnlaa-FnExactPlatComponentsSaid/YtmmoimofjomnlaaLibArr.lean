/- Arrays in a block of their own: a list of elements, one cell each. -/
import Derived.Test.YtmmoimofjomnlaaWWords
import Derived.Test.YtmmoimofjomnlaaWKept
import Derived.Test.YtmmoimofjomnlaaWMore
import Derived.Deep.MidRow
import Derived.Laws.Rows
set_option linter.unusedVariables false
set_option linter.unusedSimpArgs false
namespace Go.Proofs.Ytmmoimofjomnlaa.LibArr
open Go.RowKit Go.Proofs.YtmmoimofjomnlaaW.PrintWords
section
variable {α : Type} {enc : α → Value} {W W1 : World} {g : Nat} {xs : List α} {t : TypeId}
/-- Block g is an array of type t that holds xs. -/
def Ar (enc : α → Value) (t : TypeId) (W : World) (g : Nat) (xs : List α) : Prop := W.heap[g]? = some (.cells (xs.map enc).toArray t (0, 0))
theorem ar_put (h : Ar enc t W g xs) (i : Nat) (v : α) (hw : W1 = World.setCell W ⟨g, i, none⟩ (enc v)) : Ar enc t W1 g (xs.set i v) := by
  unfold Ar at *
  rw [hw, blk_set h i]
  congr 2
  simp [List.map_set]
theorem ar_rd (d : α) (h : Ar enc t W g xs) (x : Int) (n : Nat) (hl : xs.length = n) (h0 : 0 ≤ x) (h1 : x < n) : W.cell? ⟨g, x.toNat, none⟩ = some (enc (xs.getD x.toNat d)) ∧ W.frozen? ⟨g, x.toNat, none⟩ = false := by
  refine ⟨(blk_cell h x.toNat).trans ?_, blk_frozen h x.toNat⟩
  have hx : x.toNat < xs.length := by omega
  simp [List.getD_eq_getElem?_getD, hx]
theorem ar_rdN (d : α) (h : Ar enc t W g xs) (x : Nat) (hx : x < xs.length) : W.cell? ⟨g, x, none⟩ = some (enc (xs.getD x d)) ∧ W.frozen? ⟨g, x, none⟩ = false := by
  refine ⟨(blk_cell h x).trans ?_, blk_frozen h x⟩
  simp [List.getD_eq_getElem?_getD, hx]
theorem ar_lt (h : Ar enc t W g xs) : g < W.heap.size := blk_lt h
theorem ar_below (h : Ar enc t W g xs) (hb : Below W.heap.size W W1) : Ar enc t W1 g xs := blk_below h hb
theorem ar_kept {S : Nat → Prop} (h : Ar enc t W g xs) (hk : Kept W W1 S) (hn : ¬ S g) : Ar enc t W1 g xs := blk_kept h hk hn
theorem ar_drew (h : Ar enc t W g xs) : Ar enc t W.drew g xs := h
theorem ar_drewN (h : Ar enc t W g xs) (n : Nat) : Ar enc t (W.drewN n) g xs := h
theorem ar_at {m : Nat} (hq : W.drewN m = W1) (h : Ar enc t W g xs) : Ar enc t W1 g xs := by subst hq; exact h
theorem ar_alloc (h : Ar enc t W g xs) (o : Obj) : Ar enc t (W.alloc o) g xs := blk_alloc h o
theorem ar_blk_at {W W1 : World} {m g : Nat} {o : Obj} (hq : W.drewN m = W1) (h : W.heap[g]? = some o) : W1.heap[g]? = some o := by subst hq; exact h
theorem ar_below_at {W W1 w : World} {m B : Nat} (hq : W.drewN m = W1) (h : Below B w W) : Below B w W1 := by subst hq; exact pw_below_drewN h m
end
theorem ar_cells (g : Nat) (t : TypeId) : ∀ (vs : List Value) (o : Nat) (w : World) (pre : List Value) (mid : List Value), mid.length = vs.length → pre.length = o → (post : List Value) → w.heap[g]? = some (.cells (pre ++ mid ++ post).toArray t (0, 0)) → (w.setCells g o vs).heap[g]? = some (.cells (pre ++ vs ++ post).toArray t (0, 0))
  | [], o, w, pre, mid, hm, _, post, h => by
    rw [World.setCells]
    rw [List.length_eq_zero_iff.1 hm] at h
    exact h
  | v :: r, o, w, pre, mid, hm, hp, post, h => by
    obtain ⟨m, mid', rfl⟩ : ∃ m mid', mid = m :: mid' := by
      cases mid with
      | nil => simp at hm
      | cons m mid' => exact ⟨m, mid', rfl⟩
    rw [World.setCells]
    have h1 := blk_set h o v
    have e : ((pre ++ m :: mid' ++ post).toArray.setIfInBounds o v) = ((pre ++ [v]) ++ mid' ++ post).toArray := by
      rw [List.setIfInBounds_toArray]
      congr 1
      rw [List.append_assoc, List.set_append_right _ _ (by omega), show o - pre.length = 0 by omega]
      simp
    rw [e] at h1
    have := ar_cells g t r (o + 1) _ (pre ++ [v]) mid' (by simpa using hm) (by simp; omega) post h1
    simpa using this
theorem ar_far (g : Nat) : ∀ (vs : List Value) (o : Nat) (w : World), Kept w (w.setCells g o vs) (fun k => k = g)
  | [], o, w => Kept.refl w _
  | v :: r, o, w => by
    rw [World.setCells]
    exact (Kept.setCell (S := fun k => k = g) (Kept.refl w _) (p := ⟨g, o, none⟩) (Or.inl rfl) v).then_ (ar_far g r (o + 1) _) (fun k hk => .inl hk)
section
variable {P : Program} {ops : Array Oper} {rest : List Oper} {op : Oper} {a : Act} {w : World} {Q : Exit → Act → World → Prop}
/-- A whole array is stored. -/
theorem ar_store (hgd : op.guard = none) (ty : TypeId) (x y : Operand) (ho : op.op = .store ty x y) (g : Nat) (cs vs : List Value)
    (hx : a.eval x = .pointer (some ⟨g, 0, none⟩)) (hy : a.eval y = .agg vs.toArray) (hN : op.dst = none) (hb : w.heap[g]? = some (.cells cs.toArray ty (0, 0))) (hl : cs.length = vs.length)
    (hi : (P.info? ty).map (·.size) = some vs.length) (h1 : ∀ v ∈ vs, v.oneCell' = true)
    (h : ∀ w1, w1.heap[g]? = some (.cells vs.toArray ty (0, 0)) → Kept w w1 (fun k => k = g) → (∀ B w0, Below B w0 w → B ≤ g → Below B w0 w1) → wpList P ops Q rest a w1) : wpList P ops Q (op :: rest) a w := by
  refine wpList_store_mid hgd ty x y ho g 0 vs.toArray hx hy ?_ (by simpa using hi) (all_oneCell_toArray h1) ?_
  · intro j hj
    have hj' : j < cs.length := by simp at hj; omega
    refine ⟨?_, ?_⟩
    · rw [Nat.zero_add, blk_cell hb j]; simp [hj']
    · rw [Nat.zero_add]; exact blk_frozen hb j
  · rw [hN]
    refine h _ ?_ (ar_far g vs 0 w) ?_
    · have := ar_cells g ty vs 0 w [] cs hl rfl [] (by simpa using hb)
      simpa using this
    · intro B w0 hB hg
      clear h hx hy
      have : ∀ (vs : List Value) (o : Nat) (W : World), Below B w0 W → Below B w0 (W.setCells g o vs) := by
        intro vs
        induction vs with
        | nil => intro o W hW; exact hW
        | cons v r ih => intro o W hW; rw [World.setCells]; exact ih _ _ (hW.setCell hg v)
      exact this _ _ _ hB
/-- A whole array is read. -/
theorem ar_load (hgd : op.guard = none) (ty : TypeId) (x : Operand) (ho : op.op = .load ty x) (g : Nat) (cs : List Value) (d : TypeDesc)
    (hx : a.eval x = .pointer (some ⟨g, 0, none⟩)) (hb : w.heap[g]? = some (.cells cs.toArray ty (0, 0))) (hu : P.underlying ty = some d) (hd : (match d with | .struct _ | .array _ _ => true | _ => false) = true)
    (hi : (P.info? ty).map (·.size) = some cs.length) (h : wpList P ops Q rest (a.put op.dst (.agg cs.toArray)) w) : wpList P ops Q (op :: rest) a w :=
  wpList_load_row hgd ty x ho g hx ty cs.toArray (0, 0) d hb hu hd (by simpa using hi) h
end
end Go.Proofs.Ytmmoimofjomnlaa.LibArr
