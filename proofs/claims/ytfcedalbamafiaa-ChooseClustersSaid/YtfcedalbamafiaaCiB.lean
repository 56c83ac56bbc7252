/- ChooseMajority: what is proved of the given program. It bears no condition. -/
import Derived.Test.YtfcedalbamafiaaCiA
-- BYTES bytsB9
namespace Go.Proofs.Ytfcedalbamafiaa
open Go Go.Im
set_option linter.unusedVariables false
set_option linter.unusedSimpArgs false
abbrev tabJ (c : Nat → List IV → Bool) (lo hi co : List IV → Int) (g : List IV → Int → Int) : FuncId → Option SpecF := tab [(10, constF (.bool true)), (11, rgP c lo hi co), (12, covP c g)]
theorem maj_tree (nl : Option Bool) (cl : Bool) (z : Nat) (l : List IV) (x : Int) (c : Nat → List IV → Bool) (lo hi co : List IV → Int) (g : List IV → Int → Int) : C (tabJ c lo hi co g) 3 [.fsl nl cl z l, .int .i64 x] =
  (bif decide ((↑l.length : Int) > (200 : Int)) then some (IV.bool true, [])
   else
     bif c z l then
       bif co l == (1 : Int) then some (IV.bool true, [])
       else
         bif c z l then
           bif decide (IntKind.i64.wrap ((2 : Int) * g l x) ≤ (↑l.length : Int)) then
             some (IV.bool (bif true then bif co l == (0 : Int) then true else co l == (150 : Int) else false), [])
           else
             some
               (IV.bool
                   (bif bif bif true then co l == (0 : Int) else false then decide (lo l ≤ x) else false then
                     decide (x ≤ hi l)
                   else false),
                 [])
         else none
     else none) := by kernel_rfl
end Go.Proofs.Ytfcedalbamafiaa
