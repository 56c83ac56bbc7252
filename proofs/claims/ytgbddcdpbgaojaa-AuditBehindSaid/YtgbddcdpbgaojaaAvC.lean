/- AuditAll: the law's own calls, and whether all have a match. It bears no condition. -/
import Derived.Test.YtgbddcdpbgaojaaAvB
-- BYTES bytsB
-- SUB (b1 : Bool)  => 
-- SUB (b1 : Bool) => 
-- SUB cstF b1 => oneF (alV nl cl l nl' cl' gs false 0 0 .undef) []
-- SUB bif b1 then => bif sameS (alV nl cl l nl' cl' gs false 0 0 .undef) [] then
namespace Go.Proofs.Ytgbddcdpbgaojaa
open Go Go.Im
set_option linter.unusedVariables false
set_option linter.unusedSimpArgs false
theorem al_call0 (cl0 gl0 co : List IV → Bool) (go : List IV → List IV) (cp gp : List IV → Bool) (ca : Nat → List IV → Nat → List IV → Bool) (ga : Int → Int → Int → List IV → Int → Int → Int → List IV → Bool) (ct : List IV → Bool) (gt : List IV → Int) (nl : Option Bool) (cl : Bool) (l : List IV) (nl' : Option Bool) (cl' : Bool) (gs : List IV) (n i : Int) : Cb (tabA cl0 gl0 co go cp gp ca ga ct gt) (ltab [(8, 122, LF 8 0 (oneF (alV nl cl l nl' cl' gs false 0 0 .undef) [] (.exit 0) (alV nl cl l nl' cl' gs false n i .undef) []))]) 8 [.fsl nl cl 5 l, .fsl nl' cl' 1 gs] [] =
  (bif cl0 l then
     bif gl0 l then some (IV.bool true, [])
     else
       bif sameS (alV nl cl l nl' cl' gs false 0 0 .undef) [] then
         bif co l then
           bif cp (go l) then
             bif (bif true then gp (go l) else false) == true then
               bif ct l then some (IV.bool (bif true then gt l == n else false), []) else none
             else some (IV.bool false, [])
           else none
         else none
       else none
   else none) := by kernel_rfl
theorem al_ret0 (cl0 gl0 co : List IV → Bool) (go : List IV → List IV) (cp gp : List IV → Bool) (ca : Nat → List IV → Nat → List IV → Bool) (ga : Int → Int → Int → List IV → Int → Int → Int → List IV → Bool) (ct : List IV → Bool) (gt : List IV → Int) (nl : Option Bool) (cl : Bool) (l : List IV) (nl' : Option Bool) (cl' : Bool) (gs : List IV) (n i : Int) : Cb (tabA cl0 gl0 co go cp gp ca ga ct gt) (ltab [(8, 122, LF 8 0 (oneF (alV nl cl l nl' cl' gs false 0 0 .undef) [] .ret (alV nl cl l nl' cl' gs true n i .undef) []))]) 8 [.fsl nl cl 5 l, .fsl nl' cl' 1 gs] [] =
  (bif cl0 l then bif gl0 l then some (IV.bool true, []) else bif sameS (alV nl cl l nl' cl' gs false 0 0 .undef) [] then some (IV.bool true, []) else none else none) := by kernel_rfl
theorem al_call1 (cl0 gl0 co : List IV → Bool) (go : List IV → List IV) (cp gp : List IV → Bool) (ca : Nat → List IV → Nat → List IV → Bool) (ga : Int → Int → Int → List IV → Int → Int → Int → List IV → Bool) (ct : List IV → Bool) (gt : List IV → Int) (nl : Option Bool) (cl : Bool) (l : List IV) (nl' : Option Bool) (cl' : Bool) (gs : List IV) (n i : Int) (d : Int) : Cb (tabA cl0 gl0 co go cp gp ca ga ct gt) (ltab [(8, 122, LF 8 0 (oneF (alV nl cl l nl' cl' gs false 0 0 .undef) [] (.exit 0) (alV nl cl l nl' cl' gs false n i (.int .i64 d)) []))]) 8 [.fsl nl cl 5 l, .fsl nl' cl' 1 gs] [] =
  (bif cl0 l then
     bif gl0 l then some (IV.bool true, [])
     else
       bif sameS (alV nl cl l nl' cl' gs false 0 0 .undef) [] then
         bif co l then
           bif cp (go l) then
             bif (bif true then gp (go l) else false) == true then
               bif ct l then some (IV.bool (bif true then gt l == n else false), []) else none
             else some (IV.bool false, [])
           else none
         else none
       else none
   else none) := by kernel_rfl
theorem al_ret1 (cl0 gl0 co : List IV → Bool) (go : List IV → List IV) (cp gp : List IV → Bool) (ca : Nat → List IV → Nat → List IV → Bool) (ga : Int → Int → Int → List IV → Int → Int → Int → List IV → Bool) (ct : List IV → Bool) (gt : List IV → Int) (nl : Option Bool) (cl : Bool) (l : List IV) (nl' : Option Bool) (cl' : Bool) (gs : List IV) (n i : Int) (d : Int) : Cb (tabA cl0 gl0 co go cp gp ca ga ct gt) (ltab [(8, 122, LF 8 0 (oneF (alV nl cl l nl' cl' gs false 0 0 .undef) [] .ret (alV nl cl l nl' cl' gs true n i (.int .i64 d)) []))]) 8 [.fsl nl cl 5 l, .fsl nl' cl' 1 gs] [] =
  (bif cl0 l then bif gl0 l then some (IV.bool true, []) else bif sameS (alV nl cl l nl' cl' gs false 0 0 .undef) [] then some (IV.bool true, []) else none else none) := by kernel_rfl
end Go.Proofs.Ytgbddcdpbgaojaa
