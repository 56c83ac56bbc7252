/- What the laws of this seat lean on: the machine's table of slots that live through loops. It bears no condition. -/
import Derived.Test.YtphddjolipaejaaIm4
import Derived.Test.YtphddjolipaejaaProg
namespace Go.Proofs.Ytphddjolipaejaa
open Go Go.Im
set_option linter.unusedVariables false

def kps : FuncId → Keep := fun f => ((([(7, ⟨[1, 2, 3, 4], [], false⟩), (9, ⟨[1, 2, 3, 4], [(3, some 13, 8)], false⟩), (10, ⟨[1, 5, 58, 59, 60], [], false⟩), (11, ⟨[1, 4, 5, 6], [(5, none, 1)], false⟩), (12, ⟨[1, 3, 4, 67, 68, 69], [], false⟩),
  (13, ⟨[1, 2, 3, 4], [], false⟩), (14, ⟨[2, 3, 4, 5], [], false⟩), (18, ⟨[0, 1, 8, 9, 10, 11, 12], [], true⟩), (21, ⟨[], [], true⟩), (22, ⟨[0, 5, 6], [(5, none, 1)], false⟩),
  (27, ⟨[0, 2, 3, 4, 5, 6, 7, 129], [(6, some 13, 8)], false⟩), (30, ⟨[0, 3], [], false⟩), (31, ⟨[0, 3, 4], [], false⟩), (33, ⟨[3, 6, 7, 8], [], false⟩), (36, ⟨[0, 1, 2], [], true⟩),
  (37, ⟨[0, 2, 3, 4, 5, 31, 32, 33], [], false⟩)] : List (Nat × Keep)).lookup f).getD ⟨[], [], false⟩)
def hint : Hint := { kp := kps, mv := fun f => match f with | 18 => [true] | 21 => [true] | _ => [], keep := fun f => match f with | 18 => true | 21 => true | 22 => true | 34 => true | _ => false, gl := fun _ => none }
theorem fits : Fits Try.prog := fits_of (by kernel_rfl) (by kernel_rfl) (by kernel_rfl)
noncomputable abbrev C (spec : FuncId → Option SpecF) (f : FuncId) (xs : List IV) : Option (IV × List Blk) := callK Try.prog hint spec (fun _ _ => none) 30 f xs [] (fun v T => some (v, T))
noncomputable abbrev Cb (spec : FuncId → Option SpecF) (ls : FuncId → Nat → Option LoopF) (f : FuncId) (xs : List IV) (T : List Blk) : Option (IV × List Blk) := callK Try.prog hint spec ls 30 f xs T (fun v T => some (v, T))
noncomputable abbrev Hd (spec : FuncId → Option SpecF) (f : FuncId) (q : Nat) (xs : List IV) (T : List Blk) : Option (Ex × St) := headK Try.prog hint spec (fun _ _ => none) 30 f q xs T
noncomputable abbrev Rd (spec : FuncId → Option SpecF) (p : Nat) (f : FuncId) (q : Nat) (s : St) : Option (Ex × St) := roundK Try.prog hint spec (fun _ _ => none) 30 p f q s
noncomputable abbrev Rl (spec : FuncId → Option SpecF) (ls : FuncId → Nat → Option LoopF) (p : Nat) (f : FuncId) (q : Nat) (s : St) : Option (Ex × St) := roundK Try.prog hint spec ls 30 p f q s
noncomputable def Sx (f : FuncId) (vs : List IV) (bx : List Blk) : St := stAt Try.prog hint f vs bx
end Go.Proofs.Ytphddjolipaejaa
