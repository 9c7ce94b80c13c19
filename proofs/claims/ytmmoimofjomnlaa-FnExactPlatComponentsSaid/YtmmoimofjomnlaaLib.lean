/- Plain words on lists and numbers that every pure law of this seat uses: no Go and no memory in sight. -/
import Derived.Test.YtmmoimofjomnlaaWWords
import Derived.Test.YtmmoimofjomnlaaWMore
set_option linter.unusedVariables false
set_option linter.unusedSimpArgs false
namespace Go.Proofs.Ytmmoimofjomnlaa.Lib
open Go.RowKit Go.Proofs.YtmmoimofjomnlaaW.PrintWords

theorem w64 {x : Int} (h1 : -9223372036854775808 ≤ x) (h2 : x ≤ 9223372036854775807) : wrap64 x = x := by unfold wrap64; omega

theorem wf_i64 {x : Int} (h : (Lit.int .i64 x).wf = true) : -9223372036854775808 ≤ x ∧ x ≤ 9223372036854775807 := by
  simp only [Lit.wf, IntKind.min, IntKind.max, IntKind.signed, IntKind.bits, Bool.and_eq_true, decide_eq_true_eq, if_true] at h
  omega

/-- All numbers of a list fit into 64 bits. -/
def Fits (l : List Int) : Prop := ∀ x ∈ l, -9223372036854775808 ≤ x ∧ x ≤ 9223372036854775807
theorem Fits.of {l : List Int} (h : ∀ x ∈ l, (Lit.int .i64 x).wf = true) : Fits l := fun x hx => wf_i64 (h x hx)
theorem Fits.cons {x : Int} {l : List Int} (h : Fits (x :: l)) : (-9223372036854775808 ≤ x ∧ x ≤ 9223372036854775807) ∧ Fits l :=
  ⟨h x (by simp), fun y hy => h y (by simp [hy])⟩

theorem Ev.succ {α : Type} {g : Nat → Option α} {r : α} (h : Ev (fun k => g (k + 1)) r) : Ev g r := Ev.step (fun _ => rfl) h
theorem Ev.pure {α : Type} {r s : α} (h : s = r) : Ev (fun _ => some s) r := h ▸ Ev.now s
theorem Ev.const {α : Type} {g : Option α} {r : α} (h : g = some r) : Ev (fun _ => g) r := ⟨0, fun _ _ => h⟩
theorem Ev.get {α : Type} {g : Nat → Option α} {r : α} (h : Ev g r) : ∃ K, ∀ k, K ≤ k → g k = some r := h
theorem Ev.to {α : Type} {g : Nat → Option α} {r s : α} (h : Ev g r) (e : r = s) : Ev g s := e ▸ h

theorem rd_mid (pre r : List Int) (x : Int) : rd (pre ++ x :: r) (pre.length : Int) = x := by
  simp [rd]
theorem rd_nil (i : Int) : rd [] i = 0 := by simp [rd]

theorem rd_mem (l : List Int) (i : Nat) (h : i < l.length) : rd l (i : Int) ∈ l := by
  simp [rd, List.getD_eq_getElem?_getD, h]

/-! ### Marks -/
/-- The numbers k, k + 1, .. -/
def iota (k : Int) : Nat → List Int
  | 0 => []
  | n + 1 => k :: iota (k + 1) n
theorem iota_length (k : Int) (n : Nat) : (iota k n).length = n := by
  induction n generalizing k with
  | zero => rfl
  | succ n ih => simp [iota, ih]

theorem drop_rd (l : List Int) (i : Nat) (h : i < l.length) : l.drop i = rd l (i : Int) :: l.drop (i + 1) := by
  rw [List.drop_eq_getElem_cons h]
  simp [rd, List.getD_eq_getElem?_getD, h]
theorem take_set_succ {α : Type} (l : List α) (i : Nat) (x : α) (h : i < l.length) : (l.set i x).take (i + 1) = l.take i ++ [x] := by
  rw [List.take_add_one, List.take_set_of_le (Nat.le_refl _)]
  simp [h]
theorem rd_iota (n i : Nat) (k : Int) (h : i < n) : rd (iota k n) (i : Int) = k + i := by
  induction n generalizing k i with
  | zero => omega
  | succ n ih =>
    cases i with
    | zero => simp [rd, iota]
    | succ i =>
      have := ih i (k + 1) (by omega)
      simp only [rd, iota] at this ⊢
      simp at this ⊢
      rw [this]; omega

/-! ### Braids and free words -/
/-- From low to high. -/
def inB (a lo hi : Int) : Bool := decide (lo ≤ a) && decide (a ≤ hi)
def letterB (n x : Int) : Bool := decide (x ≠ 0) && inB x (1 - n) (n - 1)
def isBraidB (n : Int) (l : List Int) : Bool := inB n 1 8 && (decide (l.length ≤ 200) && l.all (letterB n))
theorem inB_iff {a lo hi : Int} : inB a lo hi = true ↔ lo ≤ a ∧ a ≤ hi := by simp [inB]
theorem inB_not {a lo hi : Int} : inB a lo hi = false ↔ ¬ (lo ≤ a ∧ a ≤ hi) := by rw [← inB_iff]; simp
theorem isBraidB_iff {n : Int} {l : List Int} : isBraidB n l = true ↔ (1 ≤ n ∧ n ≤ 8) ∧ l.length ≤ 200 ∧ ∀ x ∈ l, x ≠ 0 ∧ 1 - n ≤ x ∧ x ≤ n - 1 := by
  simp [isBraidB, inB, letterB]
def genB (n x : Int) : Bool := decide (x ≠ 0) && inB x (-n) n
/-- The letters behind p are generators, and no pair stands there. -/
def freeFrom (n : Int) : Int → List Int → Bool
  | _, [] => true
  | p, x :: r => genB n x && (decide (p ≠ -x) && freeFrom n x r)
def isFreeB (n : Int) (l : List Int) : Bool := inB n 1 8 && (decide (l.length ≤ 4000) && freeFrom n 0 l)
theorem genB_iff {n x : Int} : genB n x = true ↔ x ≠ 0 ∧ -n ≤ x ∧ x ≤ n := by simp [genB, inB]
theorem freeFrom_gen {n : Int} : ∀ {l : List Int} {p : Int}, freeFrom n p l = true → ∀ x ∈ l, x ≠ 0 ∧ -n ≤ x ∧ x ≤ n
  | [], _, _, x, hx => by simp at hx
  | y :: r, p, h, x, hx => by
    simp only [freeFrom, Bool.and_eq_true, decide_eq_true_eq] at h
    rcases List.mem_cons.1 hx with rfl | hx
    · exact genB_iff.1 h.1
    · exact freeFrom_gen h.2.2 x hx
theorem isFreeB_iff {n : Int} {l : List Int} : isFreeB n l = true ↔ (1 ≤ n ∧ n ≤ 8) ∧ l.length ≤ 4000 ∧ freeFrom n 0 l = true := by simp [isFreeB, inB]

/-! ### Inverses and free products -/
/-- All numbers of a list are far from the ends of 64 bits. -/
def Small (l : List Int) : Prop := ∀ x ∈ l, -4611686018427387904 ≤ x ∧ x ≤ 4611686018427387904
theorem Small.rd {l : List Int} (h : Small l) (i : Nat) (hi : i < l.length) : -4611686018427387904 ≤ rd l (i : Int) ∧ rd l (i : Int) ≤ 4611686018427387904 := h _ (rd_mem l i hi)
theorem Small.of_bound {l : List Int} {b : Int} (hb : b ≤ 4611686018427387904) (h : ∀ x ∈ l, -b ≤ x ∧ x ≤ b) : Small l := fun x hx => by have := h x hx; omega
theorem Small.of_free {n : Int} {l : List Int} (h : isFreeB n l = true) : Small l := by
  obtain ⟨hn, _, hf⟩ := isFreeB_iff.1 h
  exact Small.of_bound (b := 8) (by omega) fun x hx => by have := freeFrom_gen hf x hx; omega
theorem Small.of_braid {n : Int} {l : List Int} (h : isBraidB n l = true) : Small l := by
  obtain ⟨hn, _, hf⟩ := isBraidB_iff.1 h
  exact Small.of_bound (b := 8) (by omega) fun x hx => by have := hf x hx; omega
def back (l : List Int) : List Int := (l.map fun x => -x).reverse
theorem back_length (l : List Int) : (back l).length = l.length := by simp [back]
theorem back_snoc (l : List Int) (x : Int) : back (l ++ [x]) = -x :: back l := by simp [back]
theorem back_mem {l : List Int} {x : Int} (h : x ∈ back l) : -x ∈ l := by
  simp only [back, List.mem_reverse, List.mem_map] at h
  obtain ⟨y, hy, rfl⟩ := h
  simpa using hy
theorem Small.back {l : List Int} (h : Small l) : Small (back l) := fun x hx => by have := h _ (back_mem hx); omega
theorem take_rd (l : List Int) (i : Nat) (h : i < l.length) : l.take (i + 1) = l.take i ++ [rd l (i : Int)] := by
  rw [List.take_add_one]
  simp [Go.Proofs.YtmmoimofjomnlaaW.PrintWords.rd, List.getD_eq_getElem?_getD, h]
/-- A number is put behind a list, or taken away with its opposite. -/
def push1 (w : List Int) (x : Int) : List Int := if w.getLast? = some (-x) then w.dropLast else w ++ [x]
def pushAll (w : List Int) (l : List Int) : List Int := l.foldl push1 w
theorem push1_length (w : List Int) (x : Int) : (push1 w x).length ≤ w.length + 1 := by unfold push1; split <;> simp <;> omega
theorem pushAll_length (w l : List Int) : (pushAll w l).length ≤ w.length + l.length := by
  induction l generalizing w with
  | nil => simp [pushAll]
  | cons x l ih =>
    have h1 := ih (push1 w x)
    have h2 := push1_length w x
    simp only [pushAll, List.foldl_cons, List.length_cons] at *
    omega
theorem push1_mem {w : List Int} {x y : Int} (h : y ∈ push1 w x) : y ∈ w ∨ y = x := by
  unfold push1 at h
  split at h
  · exact .inl (List.dropLast_subset w h)
  · simpa using h
theorem pushAll_mem {l w : List Int} {y : Int} (h : y ∈ pushAll w l) : y ∈ w ∨ y ∈ l := by
  induction l generalizing w with
  | nil => exact .inl h
  | cons x l ih =>
    rcases ih (w := push1 w x) h with h | h
    · rcases push1_mem h with h | h
      · exact .inl h
      · exact .inr (by simp [h])
    · exact .inr (by simp [h])
theorem last_rd (w : List Int) (h : 0 < w.length) : w.getLast? = some (rd w ((w.length : Int) - 1)) := by
  rw [List.getLast?_eq_getElem?, show ((w.length : Int) - 1) = ((w.length - 1 : Nat) : Int) from by omega]
  simp [Go.Proofs.YtmmoimofjomnlaaW.PrintWords.rd, List.getD_eq_getElem?_getD, show w.length - 1 < w.length from by omega]
theorem take_last (w : List Int) : w.take (w.length - 1) = w.dropLast := by simp [List.dropLast_eq_take]
theorem pushAll_append (w a b : List Int) : pushAll w (a ++ b) = pushAll (pushAll w a) b := by simp [pushAll]

/-! ### What the exported functions answer -/
def mulFreeM (a b : List Int) (n : Int) : List Int × Int :=
  if isFreeB n a = true ∧ isFreeB n b = true then (if ((pushAll a b).length : Int) > 4000 then ([], 3) else (pushAll a b, 0)) else ([], 1)
theorem mulFreeM_length (a b : List Int) (n : Int) : (mulFreeM a b n).1.length ≤ 4000 := by
  unfold mulFreeM
  split
  · split
    · simp
    · simp; omega
  · simp

/-! ### Rows of numbers -/
def rdl (xs : List (List Int)) (i : Int) : List Int := xs.getD i.toNat []
theorem drop_rdl (l : List (List Int)) (i : Nat) (h : i < l.length) : l.drop i = rdl l (i : Int) :: l.drop (i + 1) := by
  rw [List.drop_eq_getElem_cons h]
  simp [rdl, List.getD_eq_getElem?_getD, h]
theorem rdl_mem (l : List (List Int)) (i : Nat) (h : i < l.length) : rdl l (i : Int) ∈ l := by
  simp [rdl, List.getD_eq_getElem?_getD, h]
def rowB (m : Nat) (r : List Int) : Bool := decide (r.length = m) && r.all fun x => inB x 0 10006
def fieldB (l : List (List Int)) : Bool := decide (1 ≤ l.length) && (decide (l.length ≤ 28) && l.all (rowB l.length))
theorem fieldB_iff {l : List (List Int)} : fieldB l = true ↔ 1 ≤ l.length ∧ l.length ≤ 28 ∧ ∀ r ∈ l, r.length = l.length ∧ ∀ x ∈ r, 0 ≤ x ∧ x ≤ 10006 := by
  simp [fieldB, rowB, inB]
def diag : List (List Int) → Nat → Int
  | [], _ => 0
  | r :: rs, i => rd r (i : Int) + diag rs (i + 1)
theorem rd_range {r : List Int} (h : ∀ x ∈ r, 0 ≤ x ∧ x ≤ 10006) (i : Nat) : 0 ≤ rd r (i : Int) ∧ rd r (i : Int) ≤ 10006 := by
  by_cases hi : i < r.length
  · exact h _ (rd_mem r i hi)
  · have : rd r (i : Int) = 0 := by simp [rd, List.getD_eq_getElem?_getD, Nat.not_lt.1 hi]
    omega
theorem diag_range {l : List (List Int)} (h : ∀ r ∈ l, ∀ x ∈ r, 0 ≤ x ∧ x ≤ 10006) (i : Nat) : 0 ≤ diag l i ∧ diag l i ≤ 10006 * l.length := by
  induction l generalizing i with
  | nil => simp [diag]
  | cons r rs ih =>
    have h1 := rd_range (h r (by simp)) i
    have h2 := ih (fun r hr => h r (by simp [hr])) (i + 1)
    simp only [diag, List.length_cons]
    omega

/-! ### Generators -/
def down (a : Int) : Nat → List Int
  | 0 => []
  | n + 1 => a :: down (a - 1) n
def negUp (a : Int) : Nat → List Int
  | 0 => []
  | n + 1 => -a :: negUp (a + 1) n
def genW (i j : Int) : List Int := down j (j - i - 1).toNat ++ ([i + 1, i + 1] ++ negUp (i + 2) (j - i - 1).toNat)
theorem down_length (a : Int) (n : Nat) : (down a n).length = n := by
  induction n generalizing a with
  | zero => rfl
  | succ n ih => simp [down, ih]
theorem negUp_length (a : Int) (n : Nat) : (negUp a n).length = n := by
  induction n generalizing a with
  | zero => rfl
  | succ n ih => simp [negUp, ih]
theorem genW_length (i j : Int) : (genW i j).length = 2 * (j - i - 1).toNat + 2 := by simp [genW, down_length, negUp_length]; omega
theorem down_snoc (a : Int) (n : Nat) : down a (n + 1) = down a n ++ [a - n] := by
  induction n generalizing a with
  | zero => simp [down]
  | succ n ih =>
    rw [down, ih (a - 1), down]
    simp; omega
theorem down_mem {a : Int} {n : Nat} {x : Int} (h : x ∈ down a n) : a - n < x ∧ x ≤ a := by
  induction n generalizing a with
  | zero => simp [down] at h
  | succ n ih =>
    rcases List.mem_cons.1 h with rfl | h
    · omega
    · have := ih h; omega
theorem negUp_mem {a : Int} {n : Nat} {x : Int} (h : x ∈ negUp a n) : a ≤ -x ∧ -x < a + n := by
  induction n generalizing a with
  | zero => simp [negUp] at h
  | succ n ih =>
    rcases List.mem_cons.1 h with rfl | h
    · omega
    · have := ih h; omega
theorem genW_small {i j : Int} (h0 : 0 ≤ i) (hij : i < j) (hj : j ≤ 7) : Small (genW i j) := by
  refine Small.of_bound (b := 20) (by omega) fun x hx => ?_
  simp only [genW, List.mem_append, List.mem_cons, List.not_mem_nil, or_false] at hx
  rcases hx with h | (h | h) | h
  · have := down_mem h; omega
  · omega
  · omega
  · have := negUp_mem h; omega

def genOfM (n i j : Int) : Int × List Int × Int := if (2 ≤ n ∧ n ≤ 8) ∧ (0 ≤ i ∧ i < j) ∧ j ≤ n - 1 then (n, genW i j, 0) else (0, [], 2)
theorem genOfM_length (n i j : Int) : (genOfM n i j).2.1.length ≤ 100 := by
  unfold genOfM
  split
  · simp only [genW_length]; omega
  · simp

/-- A braid, if it keeps the limits. -/
def limM (n : Int) (l : List Int) : Int × List Int × Int := if isBraidB n l = true then (n, l, 0) else (0, [], 3)
theorem limM_length (n : Int) (l : List Int) : (limM n l).2.1.length ≤ 200 := by
  unfold limM
  split
  · rename_i h
    exact (isBraidB_iff.1 h).2.1
  · simp

/-! ### Torus braids -/
def upTo (a : Int) : Nat → List Int
  | 0 => []
  | n + 1 => a :: upTo (a + 1) n
theorem upTo_length (a : Int) (n : Nat) : (upTo a n).length = n := by
  induction n generalizing a with
  | zero => rfl
  | succ n ih => simp [upTo, ih]
theorem upTo_mem {a : Int} {n : Nat} {x : Int} (h : x ∈ upTo a n) : a ≤ x ∧ x < a + n := by
  induction n generalizing a with
  | zero => simp [upTo] at h
  | succ n ih =>
    rcases List.mem_cons.1 h with rfl | h
    · omega
    · have := ih h; omega
def manyUp (p : Int) : Nat → List Int
  | 0 => []
  | n + 1 => upTo 1 (p - 1).toNat ++ manyUp p n
theorem manyUp_length (p : Int) (n : Nat) : (manyUp p n).length = n * (p - 1).toNat := by
  induction n with
  | zero => simp [manyUp]
  | succ n ih => simp [manyUp, ih, upTo_length, Nat.succ_mul]; omega
theorem manyUp_mem {p : Int} {n : Nat} {x : Int} (hp : 1 ≤ p) (h : x ∈ manyUp p n) : 1 ≤ x ∧ x ≤ p - 1 := by
  induction n with
  | zero => simp [manyUp] at h
  | succ n ih =>
    rcases List.mem_append.1 h with h | h
    · have := upTo_mem h; omega
    · exact ih h
def torusM (p q : Int) : Int × List Int × Int :=
  if (1 ≤ p ∧ p ≤ 8) ∧ 0 ≤ q ∧ q ≤ 200 then (if (p - 1) * q > 200 then (0, [], 3) else (p, manyUp p q.toNat, 0)) else (0, [], 2)
theorem mul_bd (p q : Int) (hp : 1 ≤ p ∧ p ≤ 8) (hq : 0 ≤ q ∧ q ≤ 200) : 0 ≤ (p - 1) * q ∧ (p - 1) * q ≤ 1400 := by
  have h1 : (p - 1) * q ≤ 7 * q := Int.mul_le_mul_of_nonneg_right (by omega) hq.1
  have h2 : 0 ≤ (p - 1) * q := Int.mul_nonneg (by omega) hq.1
  omega
theorem manyUp_len (p q : Int) (hp : 1 ≤ p ∧ p ≤ 8) (hq : 0 ≤ q ∧ q ≤ 200) : ((manyUp p q.toNat).length : Int) = (p - 1) * q := by
  rw [manyUp_length, Int.natCast_mul, Int.toNat_of_nonneg hq.1, Int.toNat_of_nonneg (by omega), Int.mul_comm]
theorem torusM_length (p q : Int) : (torusM p q).2.1.length ≤ 200 := by
  unfold torusM
  split
  · rename_i h
    split
    · simp
    · have := manyUp_len p q h.1 h.2
      have := mul_bd p q h.1 h.2
      simp only; omega
  · simp

def addM (n : Int) (l : List Int) (s : Int) : Int × List Int × Int := if isBraidB n l = true then (if s = 1 ∨ s = -1 then limM (n + 1) (l ++ [s * n]) else (0, [], 2)) else (0, [], 1)
theorem addM_length (n : Int) (l : List Int) (s : Int) : (addM n l s).2.1.length ≤ 200 := by
  unfold addM
  split
  · split
    · exact limM_length _ _
    · simp
  · simp

/-! ### Combs -/
theorem abs_gen (j x : Int) (hj : 0 ≤ j ∧ j ≤ 100) (hx : -9223372036854775808 ≤ x ∧ x ≤ 9223372036854775807) : inB (mx x (wrap64 (-x))) 1 j = genB j x := by
  unfold inB genB inB mx wrap64
  rw [Bool.eq_iff_iff]
  split <;> simp <;> omega
def rowsFree : Int → List (List Int) → Bool
  | _, [] => true
  | j, w :: r => decide (w.length ≤ 400) && (freeFrom j 0 w && rowsFree (j - 1) r)
def combB (n : Int) (l : List (List Int)) : Bool := inB n 1 8 && (decide ((l.length : Int) = n - 1) && rowsFree (n - 1) l)
theorem rowsFree_mem {j : Int} {l : List (List Int)} (h : rowsFree j l = true) : ∀ w ∈ l, w.length ≤ 400 := by
  induction l generalizing j with
  | nil => simp
  | cons w r ih =>
    simp only [rowsFree, Bool.and_eq_true, decide_eq_true_eq] at h
    intro w' hw'
    rcases List.mem_cons.1 hw' with rfl | hw'
    · exact h.1
    · exact ih h.2.2 w' hw'
/-! ### A strand removed -/
def absI (x : Int) : Int := mx x (-x)
theorem absI_eq (x : Int) : absI x = if 0 ≤ x then x else -x := by unfold absI mx; split <;> split <;> omega
theorem absI_iff (x v : Int) (hv : 0 ≤ v) : absI x = v ↔ x = v ∨ x = -v := by rw [absI_eq]; split <;> omega
def removeM (n : Int) (l : List Int) : Int × List Int × Int :=
  if isBraidB n l = true then (if 0 < l.length ∧ absI (rd l ((l.length : Int) - 1)) = n - 1 ∧ (∀ x ∈ l.take (l.length - 1), absI x ≠ n - 1) then (n - 1, l.take (l.length - 1), 0) else (0, [], 5)) else (0, [], 1)
theorem removeM_length (n : Int) (l : List Int) : (removeM n l).2.1.length ≤ 200 := by
  unfold removeM
  split
  · rename_i h
    have := (isBraidB_iff.1 h).2.1
    split
    · simp; omega
    · simp
  · simp
def cntI (v : Int) (l : List Int) : Nat := l.countP fun x => decide (absI x = v)

end Go.Proofs.Ytmmoimofjomnlaa.Lib
