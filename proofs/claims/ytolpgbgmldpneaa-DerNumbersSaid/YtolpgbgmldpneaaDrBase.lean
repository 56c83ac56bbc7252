/- What the laws of this seat lean on: the machine's table of slots that live through loops. It bears no condition. -/
import Derived.Test.YtolpgbgmldpneaaIm5
import Derived.Test.YtolpgbgmldpneaaProg
namespace Go.Proofs.Ytolpgbgmldpneaa
open Go Go.Im
set_option linter.unusedVariables false

def kps : FuncId → Keep := fun f => ((([(11, ⟨[1, 2, 3, 4], [(3, some 2, 3)], false⟩), (16, ⟨[2, 3, 4, 5], [], false⟩), (20, ⟨[4, 27, 28, 29], [], false⟩), (21, ⟨[1, 4, 5], [], false⟩), (22, ⟨[2, 3, 4], [], false⟩), (23, ⟨[0, 2, 3, 5, 6], [(5, none, 1)], false⟩),
  (24, ⟨[0, 2, 3, 4], [(3, none, 1)], false⟩), (25, ⟨[0, 2, 3, 4, 5], [], false⟩), (26, ⟨[4, 5, 35, 36], [], false⟩), (27, ⟨[1, 4, 5], [(4, none, 1)], false⟩), (30, ⟨[0, 1, 4, 5], [], false⟩),
  (32, ⟨[1, 2, 6, 7, 8], [], false⟩), (33, ⟨[0, 3, 5, 11, 12, 13], [], false⟩), (34, ⟨[1, 3, 4], [(3, none, 1)], false⟩), (35, ⟨[1, 2, 3, 6, 38, 39, 40], [], false⟩), (36, ⟨[1, 2, 3], [], false⟩),
  (37, ⟨[0, 2, 6, 7, 8, 9, 12], [(9, some 2, 3)], false⟩), (39, ⟨[1, 4, 5, 6], [], false⟩), (40, ⟨[0, 2, 3], [], false⟩), (43, ⟨[0, 3, 4], [(3, none, 1)], false⟩), (44, ⟨[0, 3, 4, 5], [(3, none, 1)], false⟩),
  (45, ⟨[0, 1, 5], [(5, none, 1)], true⟩), (46, ⟨[0, 3, 4, 5], [], false⟩), (50, ⟨[0, 2, 3], [], false⟩), (51, ⟨[0, 1, 4, 5, 6, 7, 8], [], false⟩), (52, ⟨[0, 1, 4, 5], [], false⟩), (55, ⟨[0, 3], [], false⟩),
  (58, ⟨[0, 1, 4, 5], [], false⟩), (62, ⟨[0, 1, 4, 7, 8], [], false⟩)] : List (Nat × Keep)).lookup f).getD ⟨[], [], false⟩)
def hint : Hint := { kp := kps, mv := fun f => match f with | 40 => [true] | 41 => [true, false, true] | 45 => [true] | _ => [], keep := fun f => match f with | 41 => true | 45 => true | _ => false, gl := fun _ => none }
theorem fits : Fits Try.prog := fits_of (by kernel_rfl) (by kernel_rfl) (by kernel_rfl)
noncomputable abbrev C (spec : FuncId → Option SpecF) (f : FuncId) (xs : List IV) : Option (IV × List Blk) := callK Try.prog hint spec (fun _ _ => none) 30 f xs [] (fun v T => some (v, T))
noncomputable abbrev Cb (spec : FuncId → Option SpecF) (ls : FuncId → Nat → Option LoopF) (f : FuncId) (xs : List IV) (T : List Blk) : Option (IV × List Blk) := callK Try.prog hint spec ls 30 f xs T (fun v T => some (v, T))
noncomputable abbrev Rd (spec : FuncId → Option SpecF) (p : Nat) (f : FuncId) (q : Nat) (s : St) : Option (Ex × St) := roundK Try.prog hint spec (fun _ _ => none) 30 p f q s
noncomputable abbrev Rl (spec : FuncId → Option SpecF) (ls : FuncId → Nat → Option LoopF) (p : Nat) (f : FuncId) (q : Nat) (s : St) : Option (Ex × St) := roundK Try.prog hint spec ls 30 p f q s
noncomputable def Sx (f : FuncId) (vs : List IV) (bx : List Blk) : St := stAt Try.prog hint f vs bx
noncomputable section
def oneF (vs0 : List IV) (bx0 : List Blk) (e : Ex) (vs1 : List IV) (bx1 : List Blk) : LiveF := fun vs bx => [(@decide (vs = vs0 ∧ bx = bx0) (Classical.propDecidable _), e, vs1, bx1)]
def cstF (b : Bool) (e : Ex) (vs1 : List IV) (bx1 : List Blk) : LiveF := fun _ _ => [(b, e, vs1, bx1)]
def sameS (vs : List IV) (bx : List Blk) : Bool := @decide (vs = vs ∧ bx = bx) (Classical.propDecidable _)
theorem sameS_t {vs : List IV} {bx : List Blk} : sameS vs bx = true := @decide_eq_true _ (Classical.propDecidable _) ⟨rfl, rfl⟩
theorem oneF_mem {vs0 vs vs1 vs' : List IV} {bx0 bx bx1 bx' : List Blk} {e0 e : Ex} (h : (true, e, vs', bx') ∈ oneF vs0 bx0 e0 vs1 bx1 vs bx) : vs = vs0 ∧ bx = bx0 ∧ e = e0 ∧ vs' = vs1 ∧ bx' = bx1 := by
  simp only [oneF, List.mem_cons, List.not_mem_nil, or_false, Prod.mk.injEq, Bool.true_eq, decide_eq_true_eq] at h
  exact ⟨h.1.1, h.1.2, h.2.1, h.2.2.1, h.2.2.2⟩
abbrev LF (f p : Nat) (G : LiveF) : LoopF := loopF Try.prog hint f p G
end
def noL : LoopF := fun _ _ => []


end Go.Proofs.Ytolpgbgmldpneaa
