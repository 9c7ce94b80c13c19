/- Rows of a law's own, each in the stretch of the heap that its call made. -/
import Derived.Test.YtifmdgffimckgaaWKept
import Derived.Test.YtifmdgffimckgaaWMore
namespace Go.Proofs.Ytifmdgffimckgaa.LibWalk
open Go.RowKit Go.Proofs.YtifmdgffimckgaaW.PrintWords
set_option linter.unusedVariables false
variable {α : Type} {d : Kd α} {e base : Nat} {wl wr wN : World} {ok : Nat → Prop} {v : Value} {xs : List α}
theorem S_born (hl : Below wl.heap.size wl wr) (hw : base ≤ wl.heap.size) (ho : Kd.S d e wN wr.heap.size ok v xs) : Kd.S d e wN base (fun k => wl.heap.size ≤ k ∧ k < wN.heap.size) v xs :=
  Kd.S_lower (Kd.S_mono (Kd.S_bound ho) (fun k hk => ⟨Nat.le_trans (below_size hl) hk.2.1, hk.2.2.1⟩)) (Nat.le_trans hw (below_size hl))
theorem R_born (hl : Below wl.heap.size wl wr) (hw : base ≤ wl.heap.size) (ho : Kd.R d e wN wr.heap.size ok v xs) : Kd.R d e wN base (fun k => wl.heap.size ≤ k ∧ k < wN.heap.size) v xs :=
  Kd.R_lower (Kd.R_mono (Kd.R_bound ho) (fun k hk => ⟨Nat.le_trans (below_size hl) hk.2.1, hk.2.2.1⟩)) (Nat.le_trans hw (below_size hl))
end Go.Proofs.Ytifmdgffimckgaa.LibWalk
