/- Products of letters' matrices: models; four numbers stored in two rows. -/
import Derived.Test.YtifmdgffimckgaaLibMx
import Derived.Test.YtifmdgffimckgaaWAt
import Derived.Test.YtifmdgffimckgaaWLast
import Derived.Maps.OwnOps
import Derived.Maps.Views
import Derived.Carry
import Derived.WalkSpells
set_option linter.unusedVariables false
set_option linter.unusedSimpArgs false
namespace Go.Proofs.Ytifmdgffimckgaa.LibPi
open Go.RowKit Go.Proofs.YtifmdgffimckgaaW.PrintWords Go.Proofs.Ytifmdgffimckgaa.LibMx
variable {I IS : TypeId} {W : World} {base n cap : Nat} {ok : Nat → Prop} {xs : List (List Int)}
theorem cell_far {a : Addr} {u v : Value} {g j : Nat} (hc : W.cell? a = some u) (hne : g ≠ a.block) : (W.setCell ⟨g, j, none⟩ v).cell? a = some u :=
  cell_kept hc (Kept.setCell (S := fun k => k = g) (Kept.refl _ _) (p := ⟨g, j, none⟩) (Or.inl rfl) v) (fun h => hne h.symm)
/-- Rows a and b: two numbers stored in each. -/
theorem four {G : Nat} (h : Mx I IS W base ok (.slice (some ⟨G, 0, none⟩) n cap) xs) (hq : iv.Sq n xs) (a b : Int) (a0 : 0 ≤ a) (a1 : a < n) (b0 : 0 ≤ b) (b1 : b < n) (v1 v2 v3 v4 : Int) :
    ∃ gA cA gB cB, W.cell? ⟨G, a.toNat, none⟩ = some (.slice (some ⟨gA, 0, none⟩) n cA) ∧ W.cell? ⟨G, b.toNat, none⟩ = some (.slice (some ⟨gB, 0, none⟩) n cB) ∧ base ≤ gA ∧ base ≤ gB ∧ ok gA ∧ ok gB ∧
      (∃ u, W.cell? ⟨gA, a.toNat, none⟩ = some (.int .i64 u)) ∧ W.frozen? ⟨gA, a.toNat, none⟩ = false ∧
      (∃ u, (W.setCell ⟨gA, a.toNat, none⟩ (.int .i64 v1)).cell? ⟨gA, b.toNat, none⟩ = some (.int .i64 u)) ∧ (W.setCell ⟨gA, a.toNat, none⟩ (.int .i64 v1)).frozen? ⟨gA, b.toNat, none⟩ = false ∧
      (∃ u, ((W.setCell ⟨gA, a.toNat, none⟩ (.int .i64 v1)).setCell ⟨gA, b.toNat, none⟩ (.int .i64 v2)).cell? ⟨gB, a.toNat, none⟩ = some (.int .i64 u)) ∧ ((W.setCell ⟨gA, a.toNat, none⟩ (.int .i64 v1)).setCell ⟨gA, b.toNat, none⟩ (.int .i64 v2)).frozen? ⟨gB, a.toNat, none⟩ = false ∧
      (∃ u, (((W.setCell ⟨gA, a.toNat, none⟩ (.int .i64 v1)).setCell ⟨gA, b.toNat, none⟩ (.int .i64 v2)).setCell ⟨gB, a.toNat, none⟩ (.int .i64 v3)).cell? ⟨gB, b.toNat, none⟩ = some (.int .i64 u)) ∧ (((W.setCell ⟨gA, a.toNat, none⟩ (.int .i64 v1)).setCell ⟨gA, b.toNat, none⟩ (.int .i64 v2)).setCell ⟨gB, a.toNat, none⟩ (.int .i64 v3)).frozen? ⟨gB, b.toNat, none⟩ = false ∧
      Mx I IS ((((W.setCell ⟨gA, a.toNat, none⟩ (.int .i64 v1)).setCell ⟨gA, b.toNat, none⟩ (.int .i64 v2)).setCell ⟨gB, a.toNat, none⟩ (.int .i64 v3)).setCell ⟨gB, b.toNat, none⟩ (.int .i64 v4)) base ok (.slice (some ⟨G, 0, none⟩) n cap) (iv.pt (iv.pt (iv.pt (iv.pt xs a a v1) a b v2) b a v3) b b v4) := by
  have hp : 0 < n := by omega
  obtain ⟨gA, cA, hA, _, bA, kA, nA, cellA, putA⟩ := mx_atm h a a0 a1 (hq.at a a0 a1) hp
  obtain ⟨gB, cB, hB, _, bB, kB, nB, _, _⟩ := mx_atm h b b0 b1 (hq.at b b0 b1) hp
  have h1 := putA a v1 a0 a1
  have q1 : iv.Sq n (iv.pt xs a a v1) := hq.pt _ _ _ a0 a1
  have hA1 := cell_far (j := a.toNat) (v := .int .i64 v1) hA nA
  obtain ⟨gA', cA', hA', _, _, _, _, cellA', putA'⟩ := mx_atm (xs := iv.pt xs a a v1) h1 a a0 a1 (q1.at a a0 a1) hp
  have e1 := Option.some.inj (hA'.symm.trans hA1)
  cases e1
  have h2 := putA' b v2 b0 b1
  have q2 : iv.Sq n (iv.pt (iv.pt xs a a v1) a b v2) := q1.pt _ _ _ a0 a1
  have hB2 := cell_far (j := b.toNat) (v := .int .i64 v2) (cell_far (j := a.toNat) (v := .int .i64 v1) hB nA) nA
  obtain ⟨gB', cB', hB', _, _, _, _, cellB', putB'⟩ := mx_atm (xs := iv.pt (iv.pt xs a a v1) a b v2) h2 b b0 b1 (q2.at b b0 b1) hp
  have e2 := Option.some.inj (hB'.symm.trans hB2)
  cases e2
  have h3 := putB' a v3 a0 a1
  have q3 : iv.Sq n (iv.pt (iv.pt (iv.pt xs a a v1) a b v2) b a v3) := q2.pt _ _ _ b0 b1
  have hB3 := cell_far (j := a.toNat) (v := .int .i64 v3) hB2 nB
  obtain ⟨gB'', cB'', hB'', _, _, _, _, cellB'', putB''⟩ := mx_atm (xs := iv.pt (iv.pt (iv.pt xs a a v1) a b v2) b a v3) h3 b b0 b1 (q3.at b b0 b1) hp
  have e3 := Option.some.inj (hB''.symm.trans hB3)
  cases e3
  exact ⟨gA, _, gB, _, hA, hB, bA, bB, kA, kB, ⟨_, (cellA a a0 a1).1⟩, (cellA a a0 a1).2, ⟨_, (cellA' b b0 b1).1⟩, (cellA' b b0 b1).2, ⟨_, (cellB' a a0 a1).1⟩, (cellB' a a0 a1).2, ⟨_, (cellB'' b b0 b1).1⟩, (cellB'' b b0 b1).2, putB'' b v4 b0 b1⟩
namespace pi
open iv
/-- Burau's letter: four numbers in the unit matrix. -/
def bs (t : Int) (k : Int) (U : LL) : LL := pt (pt (pt (pt U (k - 1) (k - 1) (iv.inF (wrap64 (1 - t)))) (k - 1) k t) k (k - 1) 1) k k 0
theorem bs_Sq {n : Nat} {U : LL} (h : Sq n U) (t k : Int) (h0 : 1 ≤ k) (h1 : k < n) : Sq n (bs t k U) :=
  (((h.pt _ _ _ (by omega) (by omega)).pt _ _ _ (by omega) (by omega)).pt _ _ _ (by omega) h1).pt _ _ _ (by omega) h1
def ks (z : Int) : Int := mx z (wrap64 (-z))
/-- The matrix of a letter, out of the matrix of its generator. -/
def own (base : Int → Option LL) (inv : LL → Option LL) (z : Int) : Option LL := (base (ks z)).bind fun B => if z < 0 then inv B else some B
def go (own : Int → Option LL) (mul : LL → LL → Option LL) : List Int → LL → Option LL
  | [], out => some out
  | z :: l, out => (own z).bind fun A => (mul out A).bind fun o => go own mul l o
theorem own_mono (b b' : Int → Option LL) (i i' : LL → Option LL) (hb : ∀ k, LeO (b k) (b' k)) (hi : ∀ B, LeO (i B) (i' B)) (z : Int) : LeO (own b i z) (own b' i' z) := by
  unfold own
  exact LeO.bind (hb _) (fun _ => LeO.ite (hi _) (LeO.refl _))
theorem go_mono (o o' : Int → Option LL) (m m' : LL → LL → Option LL) (ho : ∀ z, LeO (o z) (o' z)) (hm : ∀ a b, LeO (m a b) (m' a b)) : ∀ (l : List Int) (out : LL), LeO (go o m l out) (go o' m' l out)
  | [], _ => LeO.refl _
  | z :: l, out => by
    unfold go
    exact LeO.bind (ho _) (fun _ => LeO.bind (hm _ _) (fun _ => go_mono o o' m m' ho hm l _))
/-- What the letters may be. -/
def good (n : Int) (l : List Int) : Prop := l.length ≤ 300 ∧ ∀ z ∈ l, (1 ≤ ks z ∧ ks z < n) ∧ -100 ≤ z ∧ z ≤ 100
instance (n : Int) (l : List Int) : Decidable (good n l) := by unfold good; infer_instance
theorem good.at_ {n : Int} {l : List Int} (h : good n l) (i : Int) (h0 : 0 ≤ i) (h1 : i < l.length) : (1 ≤ ks (rd l i) ∧ ks (rd l i) < n) ∧ -100 ≤ rd l i ∧ rd l i ≤ 100 := by
  refine h.2 _ ?_
  unfold rd
  rw [List.getD_eq_getElem?_getD, List.getElem?_eq_getElem (by omega : i.toNat < l.length)]
  exact List.getElem_mem _
theorem drop_cons (l : List Int) (i : Int) (h0 : 0 ≤ i) (h1 : i < l.length) : l.drop i.toNat = rd l i :: l.drop (i + 1).toNat := by
  have h : i.toNat < l.length := by omega
  rw [List.drop_eq_getElem_cons h, show (i + 1).toNat = i.toNat + 1 by omega]
  congr 1
  unfold rd
  rw [List.getD_eq_getElem?_getD, List.getElem?_eq_getElem h]
  rfl
end pi
/-- What a map's element is told as: itself. -/
def RH (v : Value) : Option (DataW Value × List MemPlace) := some (.held v, [])
abbrev nilH : DataW Value := .held (.slice none 0 0)
/-- What the map holds: nothing, or the matrix of the letter. -/
def Known (I IS : TypeId) (W : World) (base gm m : Nat) (own : Int → Option (List (List Int))) (D : DataW Value) : Prop :=
  ∀ z v, D.atKey (.int .i64 z) nilH = .held v → v = .slice none 0 0 ∨ ∃ A, own z = some A ∧ A.length = m ∧ Kd.S (Kd.slice I (Kd.int .i64)) IS W base (fun k => some k ≠ some gm) v A
section
variable {gm m : Nat} {own : Int → Option (List (List Int))} {D : DataW Value}
theorem Known.step {W' : World} (h : Known I IS W base gm m own D) (hg : W.grownBy W' (some gm)) : Known I IS W' base gm m own D := fun z v hv => by
  rcases h z v hv with h1 | ⟨A, h1, h2, h3⟩
  · exact Or.inl h1
  · exact Or.inr ⟨A, h1, h2, Kd.S_grown h3 hg (fun _ hk => hk)⟩
theorem Known.below {W' : World} (h : Known I IS W base gm m own D) (hb : Below W.heap.size W W') : Known I IS W' base gm m own D := h.step (grown_of_below hb _)
theorem Known.at_ {W' : World} {q : Nat} (hq : W.drewN q = W') (h : Known I IS W base gm m own D) : Known I IS W' base gm m own D := fun z v hv => by
  rcases h z v hv with h1 | ⟨A, h1, h2, h3⟩
  · exact Or.inl h1
  · exact Or.inr ⟨A, h1, h2, Kd.S_at hq h3⟩
theorem Known.made : Known I IS W base gm m own (.map []) := fun z v hv => Or.inl (by
  have h2 : (DataW.map [] : DataW Value).atKey (.int .i64 z) nilH = nilH := rfl
  rw [h2] at hv
  cases hv
  rfl)
theorem Known.put {D' : DataW Value} (h : Known I IS W base gm m own D) (z : Int) (v : Value) (A : List (List Int)) (ho : ∀ k, k ≠ (Lit.int .i64 z) → D'.atKey k nilH = D.atKey k nilH) (hs : D'.atKey (.int .i64 z) nilH = .held v)
    (h1 : own z = some A) (h2 : A.length = m) (h3 : Kd.S (Kd.slice I (Kd.int .i64)) IS W base (fun k => some k ≠ some gm) v A) : Known I IS W base gm m own D' := fun y u hu => by
  by_cases e : y = z
  · subst e
    rw [hs] at hu
    cases hu
    exact Or.inr ⟨A, h1, h2, h3⟩
  · rw [ho _ (fun e2 => e (by cases e2; rfl))] at hu
    exact h y u hu
theorem own_isMap {P : Program} {k : TypeId} {R : Value → Option (DataW Value × List MemPlace)} {b n : Nat} (h : W.ownsMap P k R b n D) : Maps.IsMap D := by
  obtain ⟨_, _, _, _, _, e⟩ := h
  exact ⟨_, e⟩
theorem own_at {P : Program} {k : TypeId} {R : Value → Option (DataW Value × List MemPlace)} {b n q : Nat} {W' : World} (hq : W.drewN q = W') (h : W.ownsMap P k R b n D) : W'.ownsMap P k R b n D := by
  subst hq
  exact h
theorem put_same {P : Program} {k : TypeId} {R : Value → Option (DataW Value × List MemPlace)} {b n : Nat} (h : W.ownsMap P k R b n D) (z : Int) (v : Value) : (D.put (.int .i64 z) (.held v)).atKey (.int .i64 z) nilH = .held v := Maps.atKey_put_same (own_isMap h) (k := .int .i64 z) (by unfold WideAt.IsKeyLit; trivial) _ _
theorem put_other (D : DataW Value) (z : Int) (v : Value) (y : Lit) (h : y ≠ (Lit.int .i64 z)) : (D.put (.int .i64 z) (.held v)).atKey y nilH = D.atKey y nilH := Maps.atKey_put_other h _ _
end
theorem wpList_lookup_held {P : Program} (w : World) {ops : Array Oper} {rest : List Oper} {o : Oper} {a : Act} {Q : Exit → Act → World → Prop}
    (hg : o.guard = none) (mo x : Operand) (t : TypeId) (hop : o.op = Op.lookup t mo x false)
    (k e : TypeId) (K : Maps.Keyed P k) (ht : P.underlying t = some (.map k e)) (hz : (zeroValue e).run P w = .ok (.slice none 0 0) w) (b nn : Nat) (D : DataW Value)
    (hm : a.eval mo = .map (some b)) (hown : w.ownsMap P k RH b nn D) (key : Value) (z : Int) (hx : a.eval x = key) (hkey : keyOf P k key = some (.int .i64 z))
    (hK : ∀ v : Value, D.atKey (.int .i64 z) nilH = .held v → wpList P ops Q rest (a.put o.dst v) w) :
    wpList P ops Q (o :: rest) a w := by
  refine wpList_plain hg fun K' hK' => ?_
  obtain ⟨v, ps, hrun, hv⟩ := hown.lookup K ht hz (zd := nilH) rfl hkey
  unfold Oper.wp
  simp [execOp, hop, hm, hx, hrun, Result.andThen]
  refine hK' _ _ (hK v ?_)
  unfold RH at hv
  simp only [Option.some.injEq, Prod.mk.injEq] at hv
  exact hv.1.symm
section
open Go.Proofs.YtifmdgffimckgaaW.PrintLast
/-- A call of a function value (that caught something) in a plain region. -/
theorem goesF_ {P : Program} {ops : Array Oper} {Q : Exit → Act → World → Prop} {rest : List Oper} {oi : Oper} {a : Act} {w : World} (N : Option Tmp) (hd : oi.dst = N) (hg : oi.guard = none) {f : FuncId} {fn : Func} {x : Operand} {as : Array Operand} {ts : Array TypeId} (hf : P.funcs[f]? = some fn) (hname : (fn.name == "runtime.NumGoroutine") = false) (hb : fn.body.isSome = true) (args fr : Array Value)
    (hop : oi.op = .call { callee := .value x, args := as, argTypes := ts }) (hx : a.eval x = .func (.func f) #[] fr) (hargs : as.map a.eval = args)
    (h : Calls P f (args ++ fr) w fun e w' => ∃ v, e = .returned v ∧ wpList P ops Q rest (a.put N v) w') : wpList P ops Q (oi :: rest) a w := by
  refine wpList_plain hg fun K hK => ?_
  have he := enters_ hf hname hb (args ++ fr) w
  have hrun : (execOp a.eval oi).run P w = .ok (.enter f (args ++ fr)) w := by
    unfold execOp
    simp [hop, resolve, Deferred.ofValue, invoke, hx, hargs, he]
  unfold Oper.wp
  rw [hrun, Oper.upon_enter]
  refine h.mono fun e w'' hh => ?_
  obtain ⟨v, rfl, hk⟩ := hh
  subst hd
  exact hK _ _ hk
end
namespace pi
open iv
def lim (l : List Int) : Prop := l.length ≤ 300 ∧ ∀ z ∈ l, -100 ≤ z ∧ z ≤ 100
instance (l : List Int) : Decidable (lim l) := by unfold lim; infer_instance
theorem lim.at_ {l : List Int} (h : lim l) (i : Int) (h0 : 0 ≤ i) (h1 : i < l.length) : -100 ≤ rd l i ∧ rd l i ≤ 100 := by
  refine h.2 _ ?_
  unfold rd
  rw [List.getD_eq_getElem?_getD, List.getElem?_eq_getElem (by omega : i.toNat < l.length)]
  exact List.getElem_mem _
def ownG (m : Nat) (base : Int → Option LL) (inv : LL → Option LL) (z : Int) : Option LL := (own base inv z).bind fun A => if A.length = m then some A else none
theorem ownG_mono (m : Nat) (b b' : Int → Option LL) (i i' : LL → Option LL) (hb : ∀ k, LeO (b k) (b' k)) (hi : ∀ B, LeO (i B) (i' B)) (z : Int) : LeO (ownG m b i z) (ownG m b' i' z) := by
  unfold ownG
  exact LeO.bind (own_mono _ _ _ _ hb hi z) (fun _ => LeO.refl _)
end pi
theorem lookH {P : Program} {t k e : TypeId} {b nn : Nat} {D : DataW Value} (hown : W.ownsMap P k RH b nn D) (K : Maps.Keyed P k) (ht : P.underlying t = some (.map k e)) (hz : (zeroValue e).run P W = .ok (.slice none 0 0) W) (z : Int) (hkey : keyOf P k (.int .i64 z) = some (.int .i64 z)) :
    ∃ v, (Instr.lookup t (.map (some b)) (.int .i64 z) false).run P W = .ok v W ∧ D.atKey (.int .i64 z) nilH = .held v := by
  obtain ⟨v, ps, hrun, hv⟩ := hown.lookup K ht hz (zd := nilH) rfl hkey
  unfold RH at hv
  simp only [Option.some.injEq, Prod.mk.injEq] at hv
  exact ⟨v, hrun, hv.1.symm⟩
theorem four_ne {G : Nat} (h : Mx I IS W base ok (.slice (some ⟨G, 0, none⟩) n cap) xs) (hq : iv.Sq n xs) (a : Int) (a0 : 0 ≤ a) (a1 : a < n) {gA cA : Nat} (hc : W.cell? ⟨G, a.toNat, none⟩ = some (.slice (some ⟨gA, 0, none⟩) n cA)) : gA ≠ G := by
  obtain ⟨gA', cA', hA, _, _, _, nA, _, _⟩ := mx_atm h a a0 a1 (hq.at a a0 a1) (by omega)
  have e := Option.some.inj (hA.symm.trans hc)
  cases e
  exact nA
/-- The rows that a call made lie apart from an older block. -/
theorem apart_old {gm : Nat} {v : Value} {W0 : World} (h : Kd.S (Kd.slice I (Kd.int .i64)) IS W W0.heap.size (fun _ => True) v xs) (hg : gm < W0.heap.size) (hb : base ≤ W0.heap.size) : Kd.S (Kd.slice I (Kd.int .i64)) IS W base (fun k => some k ≠ some gm) v xs :=
  Kd.S_lower (Kd.S_mono (Kd.S_bound h) (fun k hk e => by cases e; have := hk.2.1; omega)) hb
theorem pi.ownG_some {m : Nat} {base : Int → Option (List (List Int))} {inv : List (List Int) → Option (List (List Int))} {z : Int} {A : List (List Int)} (h : pi.ownG m base inv z = some A) : pi.own base inv z = some A ∧ A.length = m := by
  unfold pi.ownG at h
  obtain ⟨A2, h1, h2⟩ := Option.bind_eq_some_iff.mp h
  by_cases hl : A2.length = m
  · rw [if_pos hl, Option.some.injEq] at h2
    subst h2
    exact ⟨h1, hl⟩
  · rw [if_neg hl] at h2
    cases h2
end Go.Proofs.Ytifmdgffimckgaa.LibPi
