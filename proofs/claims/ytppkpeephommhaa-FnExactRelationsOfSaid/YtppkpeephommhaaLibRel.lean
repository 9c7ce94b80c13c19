/- Relations of a braid's closure: the plain function. -/
import Derived.Test.YtppkpeephommhaaLibSame
set_option linter.unusedVariables false
set_option linter.unusedSimpArgs false
namespace Go.Proofs.Ytppkpeephommhaa.Lib
open Go.RowKit Go.Proofs.YtppkpeephommhaaW.PrintWords
def relGo : Nat → List (List Int) → List (List Int) → Option (List (List Int))
  | _, [], acc => some acc
  | i, q :: r, acc => if ((pushAll [-((i : Int) + 1)] q).length : Int) > 4000 then none else relGo (i + 1) r (acc ++ [pushAll [-((i : Int) + 1)] q])
def relR : Option (List (List Int)) → List (List Int) × Int
  | some r => (r, 0)
  | none => ([], 3)
def relM (n : Int) (l : List Int) : List (List Int) × Int :=
  if isBraidB n l = true then relR ((imagesGo l n.toNat 1 []).bind fun x => relGo 0 x []) else ([], 1)
theorem relGo_bound (x : List (List Int)) : ∀ {i : Nat} {acc r : List (List Int)}, (∀ q ∈ acc, q.length ≤ 4000) → relGo i x acc = some r → r.length = acc.length + x.length ∧ ∀ q ∈ r, q.length ≤ 4000 := by
  induction x with
  | nil => intro i acc r h e; simp only [relGo, Option.some.injEq] at e; subst e; exact ⟨rfl, h⟩
  | cons q x ih =>
    intro i acc r h e
    simp only [relGo] at e
    split at e
    · cases e
    · rename_i hq
      have := ih (acc := acc ++ [pushAll [-((i : Int) + 1)] q]) (fun p hp => by
        rcases List.mem_append.1 hp with h1 | h1
        · exact h p h1
        · rw [List.mem_singleton.1 h1]; omega) e
      refine ⟨?_, this.2⟩
      have h1 := this.1
      simp at h1 ⊢
      omega
theorem relM_bound (n : Int) (l : List Int) : (relM n l).1.length ≤ 8 ∧ ∀ q ∈ (relM n l).1, q.length ≤ 4000 := by
  unfold relM
  split
  · rename_i h
    cases e : imagesGo l n.toNat 1 [] with
    | none => simp [relR]
    | some x =>
      have hx := imagesGo_ok (isBraidB_iff.1 h).1 e
      have hn := (isBraidB_iff.1 h).1
      simp only [Option.bind_some]
      cases e2 : relGo 0 x [] with
      | none => simp [relR]
      | some r =>
        have := relGo_bound x (acc := []) (by simp) e2
        have h1 := this.1
        simp only [List.length_nil] at h1
        exact ⟨by simp only [relR]; omega, this.2⟩
  · simp
theorem imagesGo_gens {l : List Int} (hl : ∀ y ∈ l, y ≠ 0 ∧ -7 ≤ y ∧ y ≤ 7) {d : Nat} : ∀ {i : Int} {acc r : List (List Int)}, 1 ≤ i → i + d ≤ 9 → (∀ q ∈ acc, Gens q) → imagesGo l d i acc = some r → ∀ q ∈ r, Gens q := by
  induction d with
  | zero =>
    intro i acc r _ _ h e
    simp only [imagesGo, Option.some.injEq] at e
    subst e
    exact h
  | succ d ih =>
    intro i acc r h1 h2 h e
    simp only [imagesGo] at e
    cases ha : actAll l [i] with
    | none => rw [ha] at e; cases e
    | some w =>
      rw [ha] at e
      have hg : Gens [i] := fun x hx => by rw [List.mem_singleton.1 hx]; omega
      have hw := actAll_gens hl hg ha
      exact ih (acc := acc ++ [w]) (by omega) (by omega) (fun q hq => by
        rcases List.mem_append.1 hq with h1 | h1
        · exact h q h1
        · rw [List.mem_singleton.1 h1]; exact hw) e
theorem images_small {n : Int} {l : List Int} {x : List (List Int)} (h : isBraidB n l = true) (e : imagesGo l n.toNat 1 [] = some x) : ∀ q ∈ x, Small q := fun q hq => by
  have hn := (isBraidB_iff.1 h).1
  exact (imagesGo_gens (braid_letters h) (by omega) (by omega) (by simp) e q hq).small
end Go.Proofs.Ytppkpeephommhaa.Lib
