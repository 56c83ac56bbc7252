/- An ideal machine for the model's programs: its values are trees, its operations are told by plain functions; what it answers the model's machine does (part 4). It bears no condition. -/
import Derived.Test.YtfcedalbamafiaaIm3
namespace Go.Im
open Go
set_option linter.unusedVariables false
set_option linter.unusedSimpArgs false
set_option linter.unnecessarySimpa false
set_option linter.unusedSectionVars false

/-! ### Rows of whole numbers -/
abbrev U (n : Nat) : List IV := List.replicate n .undef
def isInts (k : IntKind) : List IV → Bool
  | [] => true
  | x :: xs => isOf (.i k) x && isInts k xs
def toInts : List IV → List Int := List.map intOf
theorem isInts_eq {k : IntKind} : ∀ {l : List IV}, isInts k l = true → l = (toInts l).map (IV.int k)
  | [], _ => rfl
  | x :: xs, h => by
    simp only [isInts, Bool.and_eq_true] at h
    have := (mkOf_eq h.1).1
    simp only [toInts, List.map_cons, List.cons.injEq]
    refine ⟨?_, isInts_eq h.2⟩
    simpa [mkOf] using this.symm
theorem isInts_map (k : IntKind) (zs : List Int) : isInts k (zs.map (IV.int k)) = true := by
  induction zs with
  | nil => rfl
  | cons z zs ih => simp [isInts, isOf, ih]
theorem toInts_map (k : IntKind) (zs : List Int) : toInts (zs.map (IV.int k)) = zs := by
  induction zs with
  | nil => rfl
  | cons z zs ih => simpa [toInts, intOf] using ih
theorem nthD_map {k : IntKind} {zs : List Int} {i : Nat} (h : i < zs.length) : nthD (zs.map (IV.int k)) i = .int k (zs.getD i 0) := by
  simp [nthD, List.getD_eq_getElem?_getD, List.getElem?_eq_getElem h]
theorem cell_int {k : IntKind} {n : Int} : nthD (IV.int k n).cells 0 = .int k n := rfl
theorem nthD_one {x : IV} : nthD [x] 0 = x := rfl
theorem isOf_int {k : IntKind} {n : Int} : isOf (.i k) (.int k n) = true := by simp [isOf]
theorem intOf_int {k : IntKind} {n : Int} : intOf (.int k n) = n := rfl

/-- A loop that counts up to a number, and hands a value on. -/
theorem runs_up {P : Program} {H : Hint} {spec : FuncId → Option SpecF} {ls : FuncId → Nat → Option LoopF} (hls : LoopsOK P H (acall P H (ovrOf spec)) ls) {f : FuncId} {q p n : Nat}
    (hin : ∀ x ∈ loopsOf (2 * q) (loopAt P f q), ∀ F, ls f x.1 = some F → LoopOK P H (acall P H (ovrOf spec)) (H.kp f) x.2 F)
    {X : Type} {S : Nat → X → St} {N : Nat} {g : Nat → X → X} {e : Ex} {E : X → St} (he : e ≠ .normal)
    (hstep : ∀ i x, i < N → roundK P H spec ls n p f q (S i x) = some (.normal, S (i + 1) (g i x)))
    (hlast : ∀ x, roundK P H spec ls n p f q (S N x) = some (e, E x)) :
    ∀ (k i : Nat) (x : X), i + k = N → Runs P H (acall P H (ovrOf spec)) p (H.kp f) (loopAt P f q) (S i x) e (E ((List.range' i k).foldl (fun x i => g i x) x))
  | 0, i, x, h => by
    have : i = N := by omega
    subst this
    exact Runs.last hls hin he (hlast x)
  | k + 1, i, x, h => by
    refine Runs.step hls hin (hstep i x (by omega)) ?_
    have := runs_up hls hin he hstep hlast k (i + 1) (g i x) (by omega)
    simpa [List.range'_succ] using this

/-- The first number below another one for which something holds; that one, if there is none. -/
def firstOf (bad : Nat → Bool) (n : Nat) : Nat := (List.range n).findIdx bad
def anyOf (bad : Nat → Bool) (n : Nat) : Bool := (List.range n).any bad
theorem anyOf_false {bad : Nat → Bool} {n : Nat} : anyOf bad n = false ↔ ∀ i, i < n → bad i = false := by
  simp [anyOf, List.any_eq_false]
theorem anyOf_true {bad : Nat → Bool} {n : Nat} : anyOf bad n = true ↔ ∃ i, i < n ∧ bad i = true := by
  simp [anyOf, List.any_eq_true]
theorem firstOf_eq {bad : Nat → Bool} {n i : Nat} (hi : i < n) (hb : bad i = true) (hj : ∀ j, j < i → bad j = false) : firstOf bad n = i := by
  unfold firstOf
  rw [List.findIdx_eq (by simpa using hi)]
  simp only [List.getElem_range]
  exact ⟨hb, fun j h => hj j h⟩
/-- A loop that counts up to a number, and leaves where something holds. -/
theorem runs_find {P : Program} {H : Hint} {spec : FuncId → Option SpecF} {ls : FuncId → Nat → Option LoopF} (hls : LoopsOK P H (acall P H (ovrOf spec)) ls) {f : FuncId} {q p n : Nat}
    (hin : ∀ x ∈ loopsOf (2 * q) (loopAt P f q), ∀ F, ls f x.1 = some F → LoopOK P H (acall P H (ovrOf spec)) (H.kp f) x.2 F)
    {S : Nat → St} {N : Nat} {bad : Nat → Bool} {R : Nat → St} {E : St} {e1 e2 : Ex} (he1 : e1 ≠ .normal) (he2 : e2 ≠ .normal)
    (hstep : ∀ i, i < N → bad i = false → roundK P H spec ls n p f q (S i) = some (.normal, S (i + 1)))
    (hbad : ∀ i, i < N → bad i = true → roundK P H spec ls n p f q (S i) = some (e1, R i))
    (hlast : roundK P H spec ls n p f q (S N) = some (e2, E)) :
    Runs P H (acall P H (ovrOf spec)) p (H.kp f) (loopAt P f q) (S 0) (bif anyOf bad N then e1 else e2) (bif anyOf bad N then R (firstOf bad N) else E) := by
  have key : ∀ (k i : Nat), i + k = N → (∀ j, j < i → bad j = false) →
      Runs P H (acall P H (ovrOf spec)) p (H.kp f) (loopAt P f q) (S i) (bif anyOf bad N then e1 else e2) (bif anyOf bad N then R (firstOf bad N) else E) := by
    intro k
    induction k with
    | zero =>
      intro i h hj
      obtain rfl : i = N := by omega
      rw [anyOf_false.2 hj]
      exact Runs.last hls hin he2 hlast
    | succ k ih =>
      intro i h hj
      cases hc : bad i with
      | false =>
        refine Runs.step hls hin (hstep i (by omega) hc) (ih (i + 1) (by omega) fun j hj' => ?_)
        rcases Nat.lt_succ_iff_lt_or_eq.1 hj' with h' | h'
        · exact hj j h'
        · subst h'; exact hc
      | true =>
        rw [anyOf_true.2 ⟨i, by omega, hc⟩, firstOf_eq (by omega) hc hj]
        exact Runs.last hls hin he1 (hbad i (by omega) hc)
  exact key N 0 (by omega) (fun j hj => by omega)
end Go.Im
