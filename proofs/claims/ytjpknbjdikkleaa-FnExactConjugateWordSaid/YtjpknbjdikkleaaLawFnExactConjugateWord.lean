/- For every two braid-shaped inputs the program's ConjugateWord returns what the reference's returns, keeps its arguments and shares no memory; no conditions. -/
import Derived.Test.YtjpknbjdikkleaaRows
import Derived.Test.YtjpknbjdikkleaaMFnExactConjugateWordx
import Derived.Test.YtjpknbjdikkleaaPureFnExactConjugateWord
import Derived.Test.YtjpknbjdikkleaaLibOpen
import Derived.Test.YtjpknbjdikkleaaWalkFnExactConjugateWord
import Derived.WalkKit
import Derived.ProofKit
import Derived.OpenShut
import Derived.ShutString
import Derived.ChangeOld
import Derived.Below
import Derived.SizedLaws
namespace Go.Proofs.Ytjpknbjdikkleaa.fnExactConjugateWord
open Go.ChangeShapes Go.WideShapes Go.ChangeAt Go.RowKit
open Go.ChangeMaps (open_string shut_string)
open Go.Proofs.Ytjpknbjdikkleaa.LibOpen
set_option linter.unusedVariables false
set_option linter.unusedSimpArgs false
theorem own : ownKnob Try.prog.godebug = none := by kernel_rfl
theorem laidOut : laidOutB Try.prog = true := by kernel_rfl
set_option maxRecDepth 100000 in
theorem lifted (os : Os) (started : os.Started) (H : Type) (enc : TypeId × Value → H) :
    ReturnsInHanded {} Try.checked os 3 .any (Rows.fnExactConjugateWordSpec.pre6 enc Try.prog Try.f3 Rows.fnExactConjugateWordRow.domain false) (Rows.fnExactConjugateWordSpec.post enc Try.prog Try.f3 false true false false) := by
  refine returnsInHanded_of_change_sized (C := Try.checked) own started (by kernel_rfl) Try.func3
    (ChangeSpec.witness6 (enc := enc) (C := Try.checked) false ⟨#[], #[.agg #[.int .i64 0, .slice none 0 0], .agg #[.int .i64 0, .slice none 0 0]], []⟩ 8 (by kernel_rfl) (by kernel_rfl) (by kernel_rfl) (by kernel_rfl)) ?_
  intro W base args ds gs before hval0 hW hcnd hsz0 _
  have hval : ∀ (j : Nat) t v, Try.f3.params[j]? = some t → args[j]? = some v → Value.okWide Try.prog W .any base t v := hval0
  have hW' := hW
  obtain ⟨p, q, hA0, hV, rfl, hfz, hnd⟩ := hW
  have hA : DataW.TrodAll enc Try.prog W 0 (fun _ => true) true Try.f3.params.toList args.toList ds p := hA0
  rw [Try.params3] at hA hval
  obtain ⟨v0, vs0, d0, ds0, p0, q0, hargs, rfl, rfl, h0, r0⟩ := trodAll_cons hA
  obtain ⟨v1, vs1, d1, ds1, p1, q1, rfl, rfl, rfl, h1, r1⟩ := trodAll_cons r0
  obtain ⟨rfl, rfl, rfl⟩ := trodAll_nil r1
  obtain rfl : args = #[v0, v1] := by cases args; simp_all
  obtain ⟨rfl, rfl⟩ := trodVars_none hV
  have k0 := h0
  have lt0 : ∀ x ∈ p0, x.block < W.heap.size := by obtain ⟨m, hm⟩ := k0; exact DataW.trod_lt m _ _ _ hm
  obtain ⟨cs0, rfl, _⟩ := okWide_struct Try.underlying24 (hval 0 24 _ rfl rfl)
  obtain ⟨fuel0, hf0⟩ := h0
  obtain ⟨n0, A0, c0, l0, e0, w0, hr0, hm0, hw0, hc0⟩ := braid_of Try.underlying24 rfl rfl (by kernel_rfl) (by kernel_rfl) (by kernel_rfl) Try.underlying2 Try.underlying22 Try.underlying2 (by kernel_rfl) hf0
  have e0' := Array.toList_inj.1 (e0.trans (List.toList_toArray).symm)
  simp only [Value.cells] at e0'
  subst e0'
  have k1 := h1
  have lt1 : ∀ x ∈ p1, x.block < W.heap.size := by obtain ⟨m, hm⟩ := k1; exact DataW.trod_lt m _ _ _ hm
  obtain ⟨cs1, rfl, _⟩ := okWide_struct Try.underlying24 (hval 1 24 _ rfl rfl)
  obtain ⟨fuel1, hf1⟩ := h1
  obtain ⟨n1, A1, c1, l1, e1, w1, hr1, hm1, hw1, hc1⟩ := braid_of Try.underlying24 rfl rfl (by kernel_rfl) (by kernel_rfl) (by kernel_rfl) Try.underlying2 Try.underlying22 Try.underlying2 (by kernel_rfl) hf1
  have e1' := Array.toList_inj.1 (e1.trans (List.toList_toArray).symm)
  simp only [Value.cells] at e1'
  subst e1'
  clear hA0 hval0 hsz0
  refine (Go.Proofs.Ytjpknbjdikkleaa.WalkFnExactConjugateWord.law_calls _ _ _ _ _ _ _ _ W hr0 hc0 hr1 hc1 hm0 hw0 hm1 hw1).mono fun e W' ⟨he, bel⟩ => ?_
  subst he
  exact ⟨_, rfl, _, _, _, [], _, [], hW', trodAll_mk1 (shut_bool Try.underlying4 _), (trodAll_cons_mk (Below.trod laidOut (by kernel_rfl) (of_decide_eq_true (by kernel_rfl)) k0 bel lt0) (trodAll_cons_mk (Below.trod laidOut (by kernel_rfl) (of_decide_eq_true (by kernel_rfl)) k1 bel lt1) trodAll_mk0)), rfl, bel.frame _, fun h => by cases h⟩
theorem over : Rows.fnExactConjugateWordRow.holds Try.pinned (OpenSpec.ofChange Rows.fnExactConjugateWordSpec) :=
  OpenClaim.holds_of_wide 3 Try.f3 rfl rfl rfl rfl rfl rfl rfl ⟨rfl, rfl, rfl, rfl, rfl⟩ rfl rfl rfl rfl rfl (by kernel_rfl) Try.func3 (by kernel_rfl)
    (of_decide_eq_true (by kernel_rfl)) (by unfold Func.isWrapper; first | (rw [if_pos (by decide +kernel)]; kernel_rfl) | (rw [if_neg (by decide +kernel)]; exact ⟨rfl, rfl⟩))
    (fun os started H enc _ => lifted os started H enc)
theorem proved : Rows.FnExactConjugateWordSaid := over
#print axioms proved
end Go.Proofs.Ytjpknbjdikkleaa.fnExactConjugateWord
namespace Go.Proofs.Ytjpknbjdikkleaa
/-- The row, under a short name, for the claim. -/
theorem fnExactConjugateWord_holds : Rows.FnExactConjugateWordSaid := fnExactConjugateWord.proved
end Go.Proofs.Ytjpknbjdikkleaa
