/- What the laws of this seat lean on: the machine's table of slots that live through loops. It bears no condition. -/
import Derived.Test.YtgbddcdpbgaojaaIm4
import Derived.Test.YtgbddcdpbgaojaaProg
namespace Go.Proofs.Ytgbddcdpbgaojaa
open Go Go.Im
set_option linter.unusedVariables false

def kps : FuncId → Keep := fun f => ((([(3, ⟨[0, 1, 2, 6, 7, 8, 9, 10], [], false⟩), (4, ⟨[0, 4, 5, 6, 7, 8], [], false⟩), (5, ⟨[0, 2, 3, 4, 5], [], false⟩), (6, ⟨[6, 7, 8, 9], [], false⟩),
  (8, ⟨[0, 1, 4, 5, 6, 7], [], false⟩), (9, ⟨[0, 2, 3, 4], [], false⟩), (11, ⟨[3, 4, 11, 12, 13], [], false⟩), (12, ⟨[0, 3, 4], [(3, none, 5)], false⟩), (13, ⟨[0, 4, 5, 6, 7, 8], [(4, none, 1), (5, none, 1)], false⟩),
  (14, ⟨[6, 7, 8, 9, 10, 45, 46, 47], [], false⟩), (15, ⟨[0, 3, 4], [(3, none, 2)], false⟩), (16, ⟨[0, 1, 2, 6, 7, 8, 9, 10, 11, 12], [], false⟩),
  (17, ⟨[0, 1, 5, 11, 12, 13], [(5, none, 3)], false⟩), (18, ⟨[0, 1, 5, 6, 7, 8], [(7, none, 3)], false⟩), (21, ⟨[3, 4, 5], [], false⟩), (23, ⟨[0, 1, 4, 5], [], false⟩), (24, ⟨[0, 1, 4, 7, 8], [], false⟩),
  (28, ⟨[0, 1, 2, 6, 7], [], false⟩), (34, ⟨[0, 2, 3, 4, 5, 6], [], false⟩), (35, ⟨[0, 1, 4, 7, 8], [], false⟩), (36, ⟨[0, 2, 3, 4, 5, 6, 7, 129], [(6, some 13, 8)], false⟩),
  (37, ⟨[0, 1, 4, 7, 8], [], false⟩), (39, ⟨[0, 3, 4], [], false⟩), (42, ⟨[3, 6, 7, 8], [], false⟩), (46, ⟨[0, 3], [], false⟩), (48, ⟨[0, 1, 2], [], true⟩),
  (49, ⟨[0, 2, 3, 4, 5, 31, 32, 33], [], false⟩), (50, ⟨[0, 5, 6], [(5, none, 1)], false⟩), (51, ⟨[0, 3, 4], [], false⟩)] : List (Nat × Keep)).lookup f).getD ⟨[], [], false⟩)
def hint : Hint := { kp := kps, mv := fun _ => [], keep := fun f => match f with | 43 => true | 50 => true | _ => false, gl := fun _ => none }
theorem fits : Fits Try.prog := fits_of (by kernel_rfl) (by kernel_rfl) (by kernel_rfl)
noncomputable abbrev C (spec : FuncId → Option SpecF) (f : FuncId) (xs : List IV) : Option (IV × List Blk) := callK Try.prog hint spec (fun _ _ => none) 30 f xs [] (fun v T => some (v, T))
noncomputable abbrev Cb (spec : FuncId → Option SpecF) (ls : FuncId → Nat → Option LoopF) (f : FuncId) (xs : List IV) (T : List Blk) : Option (IV × List Blk) := callK Try.prog hint spec ls 30 f xs T (fun v T => some (v, T))
noncomputable abbrev Rd (spec : FuncId → Option SpecF) (p : Nat) (f : FuncId) (q : Nat) (s : St) : Option (Ex × St) := roundK Try.prog hint spec (fun _ _ => none) 30 p f q s
noncomputable abbrev Rl (spec : FuncId → Option SpecF) (ls : FuncId → Nat → Option LoopF) (p : Nat) (f : FuncId) (q : Nat) (s : St) : Option (Ex × St) := roundK Try.prog hint spec ls 30 p f q s
noncomputable def Sx (f : FuncId) (vs : List IV) (bx : List Blk) : St := stAt Try.prog hint f vs bx
noncomputable section
def oneF (vs0 : List IV) (bx0 : List Blk) (e : Ex) (vs1 : List IV) (bx1 : List Blk) : LiveF := fun vs bx => [(@decide (vs = vs0 ∧ bx = bx0) (Classical.propDecidable _), e, vs1, bx1)]
def cstF (b : Bool) (e : Ex) (vs1 : List IV) (bx1 : List Blk) : LiveF := fun _ _ => [(b, e, vs1, bx1)]
def sameS (vs : List IV) (bx : List Blk) : Bool := @decide (vs = vs ∧ bx = bx) (Classical.propDecidable _)
theorem sameS_t {vs : List IV} {bx : List Blk} : sameS vs bx = true := @decide_eq_true _ (Classical.propDecidable _) ⟨rfl, rfl⟩
theorem oneF_mem {vs0 vs vs1 vs' : List IV} {bx0 bx bx1 bx' : List Blk} {e0 e : Ex} (h : (true, e, vs', bx') ∈ oneF vs0 bx0 e0 vs1 bx1 vs bx) : vs = vs0 ∧ bx = bx0 ∧ e = e0 ∧ vs' = vs1 ∧ bx' = bx1 := by
  simp only [oneF, List.mem_cons, List.not_mem_nil, or_false, Prod.mk.injEq, Bool.true_eq, decide_eq_true_eq] at h
  exact ⟨h.1.1, h.1.2, h.2.1, h.2.2.1, h.2.2.2⟩
abbrev LF (f p : Nat) (G : LiveF) : LoopF := loopF Try.prog hint f p G
end
def noL : LoopF := fun _ _ => []
end Go.Proofs.Ytgbddcdpbgaojaa
