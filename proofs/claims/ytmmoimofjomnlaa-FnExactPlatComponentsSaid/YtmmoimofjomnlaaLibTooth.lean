/- Combs of pure braids: the plain functions. -/
import Derived.Test.YtmmoimofjomnlaaLibStrand
import Derived.Test.YtmmoimofjomnlaaLibRows
set_option linter.unusedVariables false
set_option linter.unusedSimpArgs false
namespace Go.Proofs.Ytmmoimofjomnlaa.Lib
open Go.RowKit Go.Proofs.YtmmoimofjomnlaaW.PrintWords
def leadW (letter x : Int) : List Int :=
  if letter > 0 ∧ x = absI letter then [absI letter + 1]
  else if letter > 0 ∧ x = absI letter + 1 then [-(absI letter + 1), absI letter, absI letter + 1]
  else if letter < 0 ∧ x = absI letter + 1 then [absI letter]
  else if letter < 0 ∧ x = absI letter then [absI letter, absI letter + 1, -absI letter]
  else [x]
def leadS (letter x : Int) : List Int := if x < 0 then back (leadW letter (absI x)) else leadW letter (absI x)
theorem leadW_gens {letter x : Int} (hl : letter ≠ 0 ∧ -7 ≤ letter ∧ letter ≤ 7) (hx : x ≠ 0 ∧ -8 ≤ x ∧ x ≤ 8) : Gens (leadW letter x) := by
  have h1 := absI_pos hl.1
  have h2 := absI_bd hl.2
  unfold leadW
  intro y hy
  split at hy
  · simp at hy; omega
  · split at hy
    · simp at hy; omega
    · split at hy
      · simp at hy; omega
      · split at hy
        · simp at hy; omega
        · simp at hy; omega
theorem leadW_length (letter x : Int) : (leadW letter x).length ≤ 3 := by
  unfold leadW
  split
  · simp
  · split
    · simp
    · split
      · simp
      · split <;> simp
theorem leadS_gens {letter x : Int} (hl : letter ≠ 0 ∧ -7 ≤ letter ∧ letter ≤ 7) (hx : x ≠ 0 ∧ -8 ≤ x ∧ x ≤ 8) : Gens (leadS letter x) := by
  have h1 := absI_pos hx.1
  have h2 := absI_bd hx.2
  unfold leadS
  split
  · exact (leadW_gens hl ⟨by omega, by omega, by omega⟩).back
  · exact leadW_gens hl ⟨by omega, by omega, by omega⟩
theorem leadS_length (letter x : Int) : (leadS letter x).length ≤ 3 := by
  unfold leadS
  split
  · rw [back_length]; exact leadW_length _ _
  · exact leadW_length _ _
def led1 (letter : Int) (w : List Int) : List Int := w.foldl (fun acc x => pushAll acc (leadS letter x)) []
theorem led_gens {letter : Int} {w acc : List Int} (hl : letter ≠ 0 ∧ -7 ≤ letter ∧ letter ≤ 7) (hw : Gens w) (ha : Gens acc) : Gens (w.foldl (fun acc x => pushAll acc (leadS letter x)) acc) := by
  induction w generalizing acc with
  | nil => exact ha
  | cons x r ih =>
    refine ih (fun y hy => hw y (by simp [hy])) fun y hy => ?_
    rcases pushAll_mem hy with h | h
    · exact ha y h
    · exact leadS_gens hl (hw x (by simp)) y h
theorem led1_gens {letter : Int} {w : List Int} (hl : letter ≠ 0 ∧ -7 ≤ letter ∧ letter ≤ 7) (hw : Gens w) : Gens (led1 letter w) := led_gens hl hw (by simp [Gens])
theorem led_flat (letter : Int) (w : List Int) : ∀ acc, w.foldl (fun acc x => pushAll acc (leadS letter x)) acc = pushAll acc (w.flatMap (leadS letter)) := by
  induction w with
  | nil => intro acc; rfl
  | cons x r ih => intro acc; rw [List.foldl_cons, ih, List.flatMap_cons, pushAll_append]
theorem led1_flat (letter : Int) (w : List Int) : led1 letter w = pushAll [] (w.flatMap (leadS letter)) := led_flat letter w []
/-- Led by the first m letters of the rest, from the last of them on. -/
def ledTo (rest : List Int) : Nat → List Int → Option (List Int)
  | 0, w => some w
  | m + 1, w => if ((led1 (rd rest (m : Int)) w).length : Int) > 400 then none else ledTo rest m (led1 (rd rest (m : Int)) w)
theorem ledTo_nil (rest : List Int) : ∀ m, ledTo rest m [] = some []
  | 0 => rfl
  | m + 1 => by
    have e : led1 (rd rest (m : Int)) [] = [] := rfl
    rw [ledTo, e]
    simpa using ledTo_nil rest m
theorem ledTo_ok {rest : List Int} (hr : ∀ y ∈ rest, y ≠ 0 ∧ -7 ≤ y ∧ y ≤ 7) : ∀ (m : Nat) {w r : List Int}, m ≤ rest.length → Gens w → w.length ≤ 400 → ledTo rest m w = some r → Gens r ∧ r.length ≤ 400
  | 0, w, r, _, hg, hl, e => by simp only [ledTo, Option.some.injEq] at e; subst e; exact ⟨hg, hl⟩
  | m + 1, w, r, hm, hg, hl, e => by
    simp only [ledTo] at e
    split at e
    · cases e
    · exact ledTo_ok hr m (by omega) (led1_gens (hr _ (rd_mem rest m (by omega))) hg) (by omega) e
def stepW (x : Int) (w : List Int) (p : Int) : List Int := if absI x < p then w ++ [x] else if absI x > p + 1 then w ++ [x - sgnI x] else w
def stepP (x : Int) (p : Int) : Int := if absI x = p then p - 1 else if absI x = p + 1 then p + 1 else p
def stepA (x : Int) (p : Int) : Int := if absI x = p ∧ x < 0 then -p else if absI x = p + 1 ∧ x > 0 then p + 1 else 0
def toothGo : List Int → List Int → List Int → Int → Option (List Int × List Int)
  | [], f, w, _ => some (f, w)
  | x :: l, f, w, p =>
    if stepA x p = 0 then toothGo l f (stepW x w p) (stepP x p)
    else match ledTo (stepW x w p) (stepW x w p).length [stepA x p] with
      | none => none
      | some own => if ((pushAll f own).length : Int) > 400 then none else toothGo l (pushAll f own) (stepW x w p) (stepP x p)
theorem stepW_ok {x : Int} {w : List Int} {p : Int} (hx : x ≠ 0 ∧ -7 ≤ x ∧ x ≤ 7) (hp : 0 ≤ p) (hw : ∀ y ∈ w, y ≠ 0 ∧ -7 ≤ y ∧ y ≤ 7) : ∀ y ∈ stepW x w p, y ≠ 0 ∧ -7 ≤ y ∧ y ≤ 7 := by
  unfold stepW
  intro y hy
  split at hy
  · rcases List.mem_append.1 hy with h | h
    · exact hw y h
    · rw [List.mem_singleton.1 h]; exact hx
  · split at hy
    · rename_i h1 h2
      rcases List.mem_append.1 hy with h | h
      · exact hw y h
      · rw [List.mem_singleton.1 h]
        have := absI_eq x
        unfold sgnI
        split <;> split at this <;> omega
    · exact hw y hy
theorem stepW_length (x : Int) (w : List Int) (p : Int) : w.length ≤ (stepW x w p).length ∧ (stepW x w p).length ≤ w.length + 1 := by
  unfold stepW
  split
  · simp
  · split <;> simp
theorem stepP_ok {x p : Int} (hx : x ≠ 0 ∧ -7 ≤ x ∧ x ≤ 7) (h0 : 0 ≤ p) (h7 : p ≤ 7) : 0 ≤ stepP x p ∧ stepP x p ≤ 7 := by
  have h1 := absI_pos hx.1
  have h2 := absI_bd hx.2
  unfold stepP
  split
  · omega
  · split <;> omega
theorem stepA_ok {x p : Int} (hx : x ≠ 0 ∧ -7 ≤ x ∧ x ≤ 7) (h0 : 0 ≤ p) (h7 : p ≤ 7) : -8 ≤ stepA x p ∧ stepA x p ≤ 8 := by
  unfold stepA
  split
  · omega
  · split <;> omega
/-- Without a pair of opposite neighbours. -/
def RedF (f : List Int) : Prop := pushAll [] f = f
theorem RedF.push1 {w : List Int} (h : RedF w) (x : Int) : RedF (push1 w x) := by
  unfold Lib.push1
  split
  · rename_i he
    obtain ⟨v, y, rfl⟩ : ∃ v y, w = v ++ [y] := by
      rcases List.eq_nil_or_concat w with rfl | ⟨v, y, rfl⟩
      · simp at he
      · exact ⟨v, y, by simp⟩
    simp only [List.dropLast_concat]
    have h1 : Lib.push1 (pushAll [] v) y = v ++ [y] := by
      have : pushAll [] (v ++ [y]) = v ++ [y] := h
      rw [pushAll_append] at this
      simpa [pushAll] using this
    unfold Lib.push1 at h1
    split at h1
    · have h2 := pushAll_length [] v
      have h3 := congrArg List.length h1
      simp at h2 h3
      omega
    · exact (List.append_inj' h1 rfl).1
  · rename_i he
    show pushAll [] (w ++ [x]) = w ++ [x]
    rw [pushAll_append, h]
    simp only [pushAll, List.foldl_cons, List.foldl_nil, Lib.push1, if_neg he]
theorem RedF.pushAll {w : List Int} (h : RedF w) (l : List Int) : RedF (pushAll w l) := by
  induction l generalizing w with
  | nil => exact h
  | cons x l ih => exact ih (h.push1 x)
theorem toothGo_ok (l : List Int) : ∀ {f w : List Int} {p : Int} {r s : List Int}, (∀ y ∈ l, y ≠ 0 ∧ -7 ≤ y ∧ y ≤ 7) → (∀ y ∈ w, y ≠ 0 ∧ -7 ≤ y ∧ y ≤ 7) → 0 ≤ p → p ≤ 7 → f.length ≤ 400 → toothGo l f w p = some (r, s) → r.length ≤ 400 ∧ (∀ y ∈ s, y ≠ 0 ∧ -7 ≤ y ∧ y ≤ 7) ∧ s.length ≤ w.length + l.length := by
  induction l with
  | nil => intro f w p r s _ hw _ _ hf e; simp only [toothGo, Option.some.injEq, Prod.mk.injEq] at e; obtain ⟨rfl, rfl⟩ := e; exact ⟨hf, hw, by simp⟩
  | cons x l ih =>
    intro f w p r s hl hw h0 h7 hf e
    have hx := hl x (by simp)
    have hl' : ∀ y ∈ l, y ≠ 0 ∧ -7 ≤ y ∧ y ≤ 7 := fun y hy => hl y (by simp [hy])
    have hw' := stepW_ok hx h0 hw
    have hp' := stepP_ok hx h0 h7
    have hle := stepW_length x w p
    simp only [toothGo] at e
    split at e
    · have := ih hl' hw' hp'.1 hp'.2 hf e
      refine ⟨this.1, this.2.1, ?_⟩
      have h3 := this.2.2
      simp only [List.length_cons]; omega
    · split at e
      · cases e
      · split at e
        · cases e
        · have := ih hl' hw' hp'.1 hp'.2 (by omega) e
          refine ⟨this.1, this.2.1, ?_⟩
          have h3 := this.2.2
          simp only [List.length_cons]; omega
def combGo' : Nat → List Int → List (List Int) → Option (List (List Int))
  | 0, _, acc => some acc
  | j + 1, l, acc => match toothGo l [] [] ((j + 1 : Nat) : Int) with
    | none => none
    | some r => combGo' j r.2 (acc ++ [r.1])
theorem combGo'_ok : ∀ (j : Nat) {l : List Int} {acc r : List (List Int)}, j ≤ 7 → (∀ y ∈ l, y ≠ 0 ∧ -7 ≤ y ∧ y ≤ 7) → (∀ q ∈ acc, q.length ≤ 400) → combGo' j l acc = some r → r.length = acc.length + j ∧ ∀ q ∈ r, q.length ≤ 400
  | 0, l, acc, r, _, _, ha, e => by simp only [combGo', Option.some.injEq] at e; subst e; exact ⟨rfl, ha⟩
  | j + 1, l, acc, r, hj, hl, ha, e => by
    simp only [combGo'] at e
    split at e
    · cases e
    · rename_i t ht
      have h1 := toothGo_ok l (r := t.1) (s := t.2) hl (by simp) (by omega) (by omega) (by simp) ht
      have := combGo'_ok j (acc := acc ++ [t.1]) (by omega) h1.2.1 (fun q hq => by
        rcases List.mem_append.1 hq with h | h
        · exact ha q h
        · rw [List.mem_singleton.1 h]; exact h1.1) e
      refine ⟨?_, this.2⟩
      have h2 := this.1
      simp at h2
      omega
end Go.Proofs.Ytmmoimofjomnlaa.Lib
