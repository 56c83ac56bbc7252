/- The fields of a packet are gone through: the whole loop. It bears no condition. -/
import Derived.Test.YtgbddcdpbgaojaaAwS
namespace Go.Proofs.Ytgbddcdpbgaojaa
open Go Go.Im
set_option linter.unusedVariables false
set_option linter.unusedSimpArgs false
set_option maxRecDepth 20000
noncomputable def oneL (f q p : Nat) (G : LiveF) : Nat → Option LoopF := fun r => match Nat.beq r q with | true => some (loopF Try.prog hint f p G) | false => none
theorem rf_ok (p : PK) (l es : List IV) (k : Int) (c : List IV → Bool) (g : List IV → Int) (fC : List IV → Bool) (x : List IV → XV) (ok : List IV → Bool) (cC : Nat → List IV → Bool) :
    rfLoopK Try.prog hint (tab [(42, getP c g), (44, frP fC x ok), (45, cloneP cC)]) (fun _ _ => none) (oneL 48 2 10 (oneF itV (itB p l [] 48 48 0 0 .ready) (.exit 0) itV (itB p l es k k 0 0 .ready))) 30 0 36 8186 (rdS p l [] 48 48 0 0) =
    bif @decide (itV = itV ∧ itB p l [] 48 48 0 0 .ready = itB p l [] 48 48 0 0 .ready) (Classical.propDecidable _) then some (.normal, rdS p l es k k 0 0) else none := by kernel_rfl
theorem rf_no (p : PK) (l es : List IV) (k : Int) (c : List IV → Bool) (g : List IV → Int) (fC : List IV → Bool) (x : List IV → XV) (ok : List IV → Bool) (cC : Nat → List IV → Bool) :
    rfLoopK Try.prog hint (tab [(42, getP c g), (44, frP fC x ok), (45, cloneP cC)]) (fun _ _ => none) (oneL 48 2 10 (oneF itV (itB p l [] 48 48 0 0 .ready) .ret itV (itB p l es k k k 101 (.done .ret)))) 30 0 36 8186 (rdS p l [] 48 48 0 0) =
    bif @decide (itV = itV ∧ itB p l [] 48 48 0 0 .ready = itB p l [] 48 48 0 0 .ready) (Classical.propDecidable _) then some (.ret, rdS p l es k k k 101) else none := by kernel_rfl
end Go.Proofs.Ytgbddcdpbgaojaa
