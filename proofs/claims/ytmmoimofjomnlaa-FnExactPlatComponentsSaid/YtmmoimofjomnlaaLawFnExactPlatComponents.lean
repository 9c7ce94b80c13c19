/- For every braid-shaped input the program's PlatComponents returns what the reference's returns and leaves its argument alone; no conditions. -/
import Derived.Test.YtmmoimofjomnlaaRows
import Derived.Test.YtmmoimofjomnlaaMFnExactPlatComponentsx6
import Derived.Test.YtmmoimofjomnlaaPureFnExactPlatComponents
import Derived.Test.YtmmoimofjomnlaaLibOpen
import Derived.WalkKit
import Derived.ProofKit
import Derived.OpenShut
import Derived.ShutString
import Derived.ChangeOld
import Derived.Below
import Derived.SizedLaws
namespace Go.Proofs.Ytmmoimofjomnlaa.fnExactPlatComponents
open Go.ChangeShapes Go.WideShapes Go.ChangeAt Go.RowKit
open Go.ChangeMaps (open_string shut_string)
open Go.Proofs.Ytmmoimofjomnlaa.LibOpen
set_option linter.unusedVariables false
set_option linter.unusedSimpArgs false
theorem own : ownKnob Try.prog.godebug = none := by kernel_rfl
theorem laidOut : laidOutB Try.prog = true := by kernel_rfl
set_option maxRecDepth 100000 in
theorem lifted (os : Os) (started : os.Started) (H : Type) (enc : TypeId × Value → H) :
    ReturnsInHanded {} Try.checked os 3 .any (Rows.fnExactPlatComponentsSpec.pre6 enc Try.prog Try.f3 Rows.fnExactPlatComponentsRow.domain false) (Rows.fnExactPlatComponentsSpec.post enc Try.prog Try.f3 false true false false) := by
  refine returnsInHanded_of_change_sized (C := Try.checked) own started (by kernel_rfl) Try.func3
    (ChangeSpec.witness6 (enc := enc) (C := Try.checked) false ⟨#[], #[.agg #[.int .i64 0, .slice none 0 0]], []⟩ 8 (by kernel_rfl) (by kernel_rfl) (by kernel_rfl) (by kernel_rfl)) ?_
  intro W base args ds gs before hval0 hW hcnd hsz0 _
  have hval : ∀ (j : Nat) t v, Try.f3.params[j]? = some t → args[j]? = some v → Value.okWide Try.prog W .any base t v := hval0
  have hW' := hW
  obtain ⟨p, q, hA0, hV, rfl, hfz, hnd⟩ := hW
  have hA : DataW.TrodAll enc Try.prog W 0 (fun _ => true) true Try.f3.params.toList args.toList ds p := hA0
  rw [Try.params3] at hA hval
  obtain ⟨v0, vs0, d0, ds0, p0, q0, hargs, rfl, rfl, h0, r0⟩ := trodAll_cons hA
  obtain ⟨rfl, rfl, rfl⟩ := trodAll_nil r0
  obtain rfl : args = #[v0] := by cases args; simp_all
  obtain ⟨rfl, rfl⟩ := trodVars_none hV
  have k0 := h0
  have lt0 : ∀ x ∈ p0, x.block < W.heap.size := by obtain ⟨m, hm⟩ := k0; exact DataW.trod_lt m _ _ _ hm
  obtain ⟨cs0, rfl, _⟩ := okWide_struct Try.underlying24 (hval 0 24 _ rfl rfl)
  obtain ⟨fuel0, hf0⟩ := h0
  obtain ⟨n0, A0, c0, l0, e0, w0, hr0, hm0, hw0, hc0⟩ := braid_of Try.underlying24 rfl rfl (by kernel_rfl) (by kernel_rfl) (by kernel_rfl) Try.underlying2 Try.underlying22 Try.underlying2 (by kernel_rfl) hf0
  have e0' := Array.toList_inj.1 (e0.trans (List.toList_toArray).symm)
  simp only [Value.cells] at e0'
  subst e0'
  clear hA0 hval0 hsz0
  obtain ⟨kk, hk⟩ := Go.Proofs.Ytmmoimofjomnlaa.PureFnExactPlatComponents.law n0 l0 hm0 hw0
  refine (MFnExactPlatComponents.laws_FnExactPlatComponents.calls kk _ _ _ _ true W hr0 hc0 ⟨rfl⟩ hk).mono fun e W' ⟨he, bel⟩ => ?_
  subst he
  exact ⟨_, rfl, _, _, _, [], _, [], hW', trodAll_mk1 (shut_bool Try.underlying4 _), (trodAll_cons_mk (Below.trod laidOut (by kernel_rfl) (of_decide_eq_true (by kernel_rfl)) k0 bel lt0) trodAll_mk0), rfl, bel.frame _, fun h => by cases h⟩
theorem over : Rows.fnExactPlatComponentsRow.holds Try.pinned (OpenSpec.ofChange Rows.fnExactPlatComponentsSpec) :=
  OpenClaim.holds_of_wide 3 Try.f3 rfl rfl rfl rfl rfl rfl rfl ⟨rfl, rfl, rfl, rfl, rfl⟩ rfl rfl rfl rfl rfl (by kernel_rfl) Try.func3 (by kernel_rfl)
    (of_decide_eq_true (by kernel_rfl)) (by unfold Func.isWrapper; first | (rw [if_pos (by decide +kernel)]; kernel_rfl) | (rw [if_neg (by decide +kernel)]; exact ⟨rfl, rfl⟩))
    (fun os started H enc _ => lifted os started H enc)
theorem proved : Rows.FnExactPlatComponentsSaid := over
#print axioms proved
end Go.Proofs.Ytmmoimofjomnlaa.fnExactPlatComponents
namespace Go.Proofs.Ytmmoimofjomnlaa
/-- The row, under a short name, for the claim. -/
theorem fnExactPlatComponents_holds : Rows.FnExactPlatComponentsSaid := fnExactPlatComponents.proved
end Go.Proofs.Ytmmoimofjomnlaa
