/- Arguments read: what the cells of a slice of numbers, of rows of numbers, of a braid and of a desk hold. -/
import Derived.Test.YtmmoimofjomnlaaWWords
import Derived.Test.YtmmoimofjomnlaaWMore
import Derived.ProofKit
import Derived.Deep.Matrix
set_option linter.unusedVariables false
set_option linter.unusedSimpArgs false
namespace Go.Proofs.Ytmmoimofjomnlaa.LibOpen
open Go.ChangeShapes Go.WideShapes Go.RowKit Go.Deep Go.Proofs.YtmmoimofjomnlaaW.PrintWords
section
variable {H : Type} {enc : TypeId × Value → H} {P : Program} {w : World} {base : Nat} {held : Bool}

theorem ints_nil (w : World) : Kd.C (Kd.int .i64) w none ([] : List Int).length [] :=
  Kd.C_of_reads (d := (0 : Int)) (h1 := fun _ => rfl) ⟨rfl, by simp, fun h => absurd h (by simp)⟩

theorem ints_of {t e : TypeId} {fuel : Nat} {cs : List Value} {x : DataW H × List MemPlace} (ht : P.underlying t = some (.slice e)) (he : P.underlying e = some (.int .i64)) (hc : P.cellsOf e = 1)
    (h : DataW.trod enc P w base (fun _ => true) held fuel t cs = some x) :
    ∃ (A : Option Addr) (c : Nat) (l : List Int), cs = [.slice A l.length c] ∧ Kd.C (Kd.int .i64) w A l.length l ∧ l.length ≤ maxLen ∧ (∀ z ∈ l, (Lit.int .i64 z).wf = true) ∧ l.length ≤ c := by
  rcases open_ints ht he hc h with ⟨rfl, _⟩ | ⟨a, len, cap, zs, rfl, _, hl, hm, hz, _, hcell, hwz⟩
  · exact ⟨none, 0, [], rfl, ints_nil w, by simp [maxLen], by simp, by simp⟩
  · obtain ⟨l, e1, hr, hm', hw', hc'⟩ := ReadsInt.ofRowC (k := .i64) (w := w) (a := some a) (len := len) (cap := cap) (zs := zs) (.inr ⟨a, rfl, hl, hm, by simpa using hz, hcell, hwz⟩)
    exact ⟨some a, cap, l, by rw [e1], Kd.C_of_reads (d := (0 : Int)) (h1 := fun _ => rfl) hr, hm', hw', hc'⟩

theorem braid_of {t e : TypeId} {f0 f1 : Field} {fuel : Nat} {cs : List Value} {x : DataW H × List MemPlace} (ht : P.underlying t = some (.struct #[f0, f1]))
    (o0 : f0.offset = 0) (o1 : f1.offset = 1) (k0 : P.cellsOf f0.type = 1) (k1 : P.cellsOf f1.type = 1) (hC : P.cellsOf t = 2)
    (u0 : P.underlying f0.type = some (.int .i64)) (u1 : P.underlying f1.type = some (.slice e)) (he : P.underlying e = some (.int .i64)) (hc : P.cellsOf e = 1)
    (h : DataW.trod enc P w base (fun _ => true) held fuel t cs = some x) :
    ∃ (n : Int) (A : Option Addr) (c : Nat) (l : List Int), cs = [.int .i64 n, .slice A l.length c] ∧ (Lit.int .i64 n).wf = true ∧
      Kd.C (Kd.int .i64) w A l.length l ∧ l.length ≤ maxLen ∧ (∀ z ∈ l, (Lit.int .i64 z).wf = true) ∧ l.length ≤ c := by
  obtain ⟨y0, y1, n, _, hl, h0, h1⟩ := trod_struct2 ht h
  match cs, hl.trans hC with
  | [c0, c1], _ =>
    rw [o0, k0] at h0
    rw [o1, k1] at h1
    obtain ⟨m, e0, _, hm⟩ := DataW.trod_int u0 h0
    obtain ⟨A, c, l, e1, r⟩ := ints_of u1 he hc h1
    simp at e0 e1
    subst e0; subst e1
    exact ⟨m, A, c, l, rfl, hm, r⟩

theorem desk_of {t b e : TypeId} {F0 F1 f0 f1 : Field} {fuel : Nat} {cs : List Value} {x : DataW H × List MemPlace} (hT : P.underlying t = some (.struct #[F0, F1]))
    (O0 : F0.offset = 0) (O1 : F1.offset = 2) (t0 : F0.type = b) (t1 : F1.type = b) (hCT : P.cellsOf t = 4) (ht : P.underlying b = some (.struct #[f0, f1]))
    (o0 : f0.offset = 0) (o1 : f1.offset = 1) (k0 : P.cellsOf f0.type = 1) (k1 : P.cellsOf f1.type = 1) (hC : P.cellsOf b = 2)
    (u0 : P.underlying f0.type = some (.int .i64)) (u1 : P.underlying f1.type = some (.slice e)) (he : P.underlying e = some (.int .i64)) (hc : P.cellsOf e = 1)
    (h : DataW.trod enc P w base (fun _ => true) held fuel t cs = some x) :
    ∃ (n : Int) (A : Option Addr) (c : Nat) (l : List Int) (n' : Int) (A' : Option Addr) (c' : Nat) (l' : List Int), cs = [.int .i64 n, .slice A l.length c, .int .i64 n', .slice A' l'.length c'] ∧
      ((Lit.int .i64 n).wf = true ∧ Kd.C (Kd.int .i64) w A l.length l ∧ l.length ≤ maxLen ∧ (∀ z ∈ l, (Lit.int .i64 z).wf = true) ∧ l.length ≤ c) ∧
      ((Lit.int .i64 n').wf = true ∧ Kd.C (Kd.int .i64) w A' l'.length l' ∧ l'.length ≤ maxLen ∧ (∀ z ∈ l', (Lit.int .i64 z).wf = true) ∧ l'.length ≤ c') := by
  obtain ⟨y0, y1, n, _, hl, h0, h1⟩ := trod_struct2 hT h
  match cs, hl.trans hCT with
  | [c0, c1, c2, c3], _ =>
    rw [O0, t0, hC] at h0
    rw [O1, t1, hC] at h1
    obtain ⟨m, A, c, l, e0, r⟩ := braid_of ht o0 o1 k0 k1 hC u0 u1 he hc h0
    obtain ⟨m', A', c', l', e1, r'⟩ := braid_of ht o0 o1 k0 k1 hC u0 u1 he hc h1
    simp at e0 e1
    obtain ⟨rfl, rfl⟩ := e0
    obtain ⟨rfl, rfl⟩ := e1
    exact ⟨m, A, c, l, m', A', c', l', rfl, r, r'⟩

/-- Rows of numbers. -/
theorem rows_of {t e q : TypeId} {fuel : Nat} {cs : List Value} {x : DataW H × List MemPlace} (ht : P.underlying t = some (.slice e)) (he : P.underlying e = some (.slice q)) (hq : P.underlying q = some (.int .i64))
    (ce : P.cellsOf e = 1) (cq : P.cellsOf q = 1) (E : Nat) (h : DataW.trod enc P w base (fun _ => true) held fuel t cs = some x) :
    ∃ (A : Option Addr) (c : Nat) (l : List (List Int)), cs = [.slice A l.length c] ∧ Kd.C (Kd.slice E (Kd.int .i64)) w A l.length l ∧ l.length ≤ maxLen ∧
      (∀ r ∈ l, r.length ≤ maxLen ∧ ∀ z ∈ r, (Lit.int .i64 z).wf = true) ∧ l.length ≤ c := by
  rcases open_int_rows ht he hq ce cq h with ⟨rfl, _⟩ | ⟨a, len, cap, Ar, L, C, Z, rfl, _, hl, hm, _, hr⟩
  · exact ⟨none, 0, [], rfl, ⟨rfl, by simp, fun h => absurd h (by simp)⟩, by simp [maxLen], by simp, by simp⟩
  · have each : ∀ r, r < cap → ((Z r).take (L r)).length = L r ∧ Kd.C (Kd.int .i64) w (Ar r) (L r) ((Z r).take (L r)) ∧ L r ≤ maxLen ∧ (∀ z ∈ (Z r).take (L r), (Lit.int .i64 z).wf = true) ∧ w.cell? (a.add r) = some (.slice (Ar r) (L r) (C r)) ∧ L r ≤ C r := by
      intro r hrc
      obtain ⟨hcell, h1, h2, h3, h4, h5, h6⟩ := hr r hrc
      have hlen : ((Z r).take (L r)).length = L r := by rw [List.length_take, h3]; omega
      refine ⟨hlen, Kd.C_of_reads (d := (0 : Int)) (h1 := fun _ => rfl) ⟨hlen, by unfold maxLen at h2; omega, fun hp => ?_⟩, by omega, fun z hz => h4 z (List.mem_of_mem_take hz), hcell, h1⟩
      cases hA : Ar r with
      | none => have := h5 hA; omega
      | some a' =>
        refine ⟨a', rfl, fun j hj => ?_⟩
        have := (h6 a' hA).2 j (by omega)
        rw [this]
        simp [List.getD_eq_getElem?_getD, hj]
    refine ⟨some a, cap, (List.range len).map fun r => (Z r).take (L r), by simp, ?_, by simp; omega, ?_, by simpa using hl⟩
    · refine ⟨by simp, by simp; unfold maxLen at hm; omega, fun hp => ⟨a, rfl, fun j p hj => ?_⟩⟩
      obtain ⟨hj1, hj2⟩ := List.getElem?_eq_some_iff.1 hj
      simp at hj1 hj2
      obtain ⟨e1, e2, e3, e4, e5, e6⟩ := each j (by omega)
      subst hj2
      refine ⟨[.slice (Ar j) (L j) (C j)], rfl, ⟨Ar j, C j, by rw [e1], by rw [e1]; exact e6, by rw [e1]; exact e2⟩, fun i u hu => ?_⟩
      cases i with
      | zero => simp at hu; subst hu; simpa [Kd.slice] using e5
      | succ i => simp at hu
    · intro r hr'
      obtain ⟨j, hj, rfl⟩ := List.mem_map.1 hr'
      have hj := List.mem_range.1 hj
      obtain ⟨e1, e2, e3, e4, e5, e6⟩ := each j (by omega)
      exact ⟨by rw [e1]; exact e3, e4⟩
end
end Go.Proofs.Ytmmoimofjomnlaa.LibOpen
