/- What the laws of this seat lean on: the machine's table of slots that live through loops, the shapes of arguments. It bears no condition. -/
import Derived.Test.YtfcedalbamafiaaIm4
import Derived.Test.YtfcedalbamafiaaProg
namespace Go.Proofs.Ytfcedalbamafiaa
open Go Go.Im
set_option linter.unusedVariables false

def kps : FuncId → List Nat := fun f => ((([(4, [0, 3, 4, 6, 7, 8]), (5, [0, 1, 2, 7, 9, 10, 11, 12]), (7, [1, 5, 6, 7, 8]), (9, [0, 1, 2, 6, 7, 9, 10, 11, 12]),
  (11, [0, 5, 8, 9, 10, 11, 21, 22, 23, 39, 40, 41]), (12, [1, 5, 8, 9, 10]), (13, [1, 6, 7, 19, 20, 21]),
  (14, [0, 1, 4, 5]), (15, [0, 2, 3, 4, 5, 6, 7, 8, 9]), (16, [4, 5, 7, 19, 20, 21]), (17, [0, 4, 5, 6, 7, 8]),
  (18, [0, 1, 5, 6]), (19, [0, 1, 4, 5]), (20, [1, 2, 3, 8, 10, 11, 12, 24, 25, 43, 44, 45]),
  (21, [0, 1, 2, 6, 7, 8, 9, 10, 11, 12]), (22, [0, 1, 6, 7, 8]), (29, [1, 6, 7, 11, 12, 13]),
  (30, [0, 2, 5, 9, 10, 11]), (32, [0, 1, 2, 7, 8]), (33, [0, 1, 4, 7, 8]), (34, [0, 1, 2, 3, 4, 10, 11]),
  (39, [0, 1, 2, 3, 8, 9]), (40, [0, 3, 8, 9, 10, 11, 12]), (41, [0, 1, 8, 9, 10, 11]), (43, [0, 8, 9]),
  (44, [0, 1, 2, 3, 8, 9, 10, 11, 12]), (45, [0, 1, 4, 11, 12]), (46, [0, 1, 4, 12, 13]), (49, [0, 1, 4, 7, 8]),
  (50, [0, 2, 3, 4, 10])] : List (Nat × List Nat)).lookup f).getD [])
def hint : Hint := { kp := fun f => ⟨kps f, (match f with | 9 => [(11, none, 1)] | 11 => [(5, none, 2)] | 16 => [(7, none, 1)] | 17 => [(7, none, 1)] | 20 => [(8, some 0, 1)] | 21 => [(8, none, 1)] | _ => []), false⟩, mv := fun f => match f with | 25 => [true] | 31 => [true] | 34 => [true] | 39 => [true] | 40 => [true] | 41 => [true] | 43 => [true] | 44 => [true] | 45 => [true] | 46 => [true] | 50 => [true] | _ => [], keep := fun f => match f with | 31 => true | _ => false, gl := fun _ => none }
def types : List TypeId := [2, 3, 22, 29, 30, 32]
theorem fits : Fits Try.prog := fits_of (by kernel_rfl) (by kernel_rfl) (by kernel_rfl)
noncomputable abbrev C (spec : FuncId → Option SpecF) (f : FuncId) (xs : List IV) : Option (IV × List Blk) := callK Try.prog hint spec (fun _ _ => none) 30 f xs [] (fun v T => some (v, T))
noncomputable abbrev Hd (spec : FuncId → Option SpecF) (f : FuncId) (q : Nat) (xs : List IV) : Option (Ex × St) := headK Try.prog hint spec (fun _ _ => none) 30 f q xs []
noncomputable abbrev Rd (spec : FuncId → Option SpecF) (f : FuncId) (q : Nat) (s : St) : Option (Ex × St) := roundK Try.prog hint spec (fun _ _ => none) 30 0 f q s
noncomputable def Sx (f : FuncId) (vs : List IV) (bx : List Blk) : St := stAt Try.prog hint f vs bx
end Go.Proofs.Ytfcedalbamafiaa
