/- AuditAll: the law's own rounds and calls, and whether all have a match. It bears no condition. -/
import Derived.Test.YtgbddcdpbgaojaaAuZ
-- BYTES bytsA
-- SUB (b0 : Bool)  => 
-- SUB (b0 : Bool) => 
-- SUB cstF b0 (.exit 2) => oneF (alV nl cl l nl' cl' gs false n i (.int .i64 0)) [] (.exit 2)
-- SUB cstF b0 .ret => oneF (alV nl cl l nl' cl' gs false n i (.int .i64 0)) [] .ret
-- SUB bif b0 then => bif sameS (alV nl cl l nl' cl' gs false n i (.int .i64 0)) [] then
namespace Go.Proofs.Ytgbddcdpbgaojaa
open Go Go.Im
set_option linter.unusedVariables false
set_option linter.unusedSimpArgs false
abbrev tabA (cl0 gl0 co : List IV → Bool) (go : List IV → List IV) (cp gp : List IV → Bool) (ca : Nat → List IV → Nat → List IV → Bool) (ga : Int → Int → Int → List IV → Int → Int → Int → List IV → Bool) (ct : List IV → Bool) (gt : List IV → Int) : FuncId → Option SpecF := tab [(9, lgP cl0 gl0), (10, constF (.bool true)), (12, owP co go), (19, lgP cp gp), (20, alP ca ga), (21, mtP ct gt)]
abbrev alV (nl : Option Bool) (cl : Bool) (l : List IV) (nl' : Option Bool) (cl' : Bool) (gs : List IV) (r : Bool) (n i : Int) (d : IV) : List IV := [.fsl nl cl 5 l, .fsl nl' cl' 1 gs, .bool r, .int .i64 n, .int .i64 i, d]
theorem al_inn (cl0 gl0 co : List IV → Bool) (go : List IV → List IV) (cp gp : List IV → Bool) (ca : Nat → List IV → Nat → List IV → Bool) (ga : Int → Int → Int → List IV → Int → Int → Int → List IV → Bool) (ct : List IV → Bool) (gt : List IV → Int) (nl : Option Bool) (cl : Bool) (l : List IV) (nl' : Option Bool) (cl' : Bool) (gs : List IV) (n i k : Int) : Rd (tabA cl0 gl0 co go cp gp ca ga ct gt) 0 8 62618 (Sx 8 (alV nl cl l nl' cl' gs false n i (.int .i64 k)) []) =
  (bif decide (k < n) then
     bif decide ((1 : Nat) = (1 : Nat) ∧ (0 : Int) ≤ k ∧ k < (↑gs.length : Int)) then
       bif isOf (LT.i IntKind.i64) (nthD (nthD gs k.toNat).cells (0 : Nat)) then
         bif decide ((1 : Nat) = (1 : Nat) ∧ (0 : Int) ≤ n ∧ n < (↑gs.length : Int)) then
           bif isOf (LT.i IntKind.i64) (nthD (nthD gs n.toNat).cells (0 : Nat)) then
             bif intOf (nthD (nthD gs k.toNat).cells (0 : Nat)) == intOf (nthD (nthD gs n.toNat).cells (0 : Nat)) then
               some
                 (Ex.ret,
                   Sx (8 : Nat)
                     [IV.fsl nl cl (nat_lit 5) l, IV.fsl nl' cl' (nat_lit 1) gs, IV.bool true, IV.int IntKind.i64 n,
                       IV.int IntKind.i64 i, IV.int IntKind.i64 k]
                     [])
             else
               some
                 (Ex.normal,
                   Sx (8 : Nat)
                     [IV.fsl nl cl (nat_lit 5) l, IV.fsl nl' cl' (nat_lit 1) gs, IV.bool false, IV.int IntKind.i64 n,
                       IV.int IntKind.i64 i, IV.int IntKind.i64 (IntKind.i64.wrap (k + (1 : Int)))]
                     [])
           else none
         else none
       else none
     else none
   else
     some
       (Ex.exit (nat_lit 2),
         Sx (8 : Nat)
           [IV.fsl nl cl (nat_lit 5) l, IV.fsl nl' cl' (nat_lit 1) gs, IV.bool false, IV.int IntKind.i64 n,
             IV.int IntKind.i64 i, IV.int IntKind.i64 k]
           [])) := by kernel_rfl
theorem al_r0 (cl0 gl0 co : List IV → Bool) (go : List IV → List IV) (cp gp : List IV → Bool) (ca : Nat → List IV → Nat → List IV → Bool) (ga : Int → Int → Int → List IV → Int → Int → Int → List IV → Bool) (ct : List IV → Bool) (gt : List IV → Int) (nl : Option Bool) (cl : Bool) (l : List IV) (nl' : Option Bool) (cl' : Bool) (gs : List IV) (n i : Int) : Rl (tabA cl0 gl0 co go cp gp ca ga ct gt) (ltab [(8, 62618, LF 8 0 (oneF (alV nl cl l nl' cl' gs false n i (.int .i64 0)) [] (.exit 2) (alV nl cl l nl' cl' gs false n i (.int .i64 n)) []))]) 0 8 122 (Sx 8 (alV nl cl l nl' cl' gs false n i .undef) []) =
  (bif decide (i < (↑l.length : Int)) then
     bif decide ((5 : Nat) = (5 : Nat) ∧ (0 : Int) ≤ i ∧ i < (↑l.length : Int)) then
       bif isOf (LT.i IntKind.i64) (nthD (List.drop (0 : Nat) (nthD l i.toNat).cells) (0 : Nat)) then
         bif intOf (nthD (List.drop (0 : Nat) (nthD l i.toNat).cells) (0 : Nat)) != (3 : Int) then
           some
             (Ex.normal,
               Sx (8 : Nat)
                 [IV.fsl nl cl (nat_lit 5) l, IV.fsl nl' cl' (nat_lit 1) gs, IV.bool false, IV.int IntKind.i64 n,
                   IV.int IntKind.i64 (IntKind.i64.wrap (i + (1 : Int))), IV.undef]
                 [])
         else
           bif decide (n ≥ (↑gs.length : Int)) == false then
             bif decide ((1 : Nat) = (1 : Nat) ∧ (0 : Int) ≤ n ∧ n < (↑gs.length : Int)) then
               bif isOf (LT.i IntKind.i64) (nthD (nthD gs n.toNat).cells (0 : Nat)) then
                 bif
                     (bif false then true else decide (intOf (nthD (nthD gs n.toNat).cells (0 : Nat)) < (0 : Int))) ==
                       false then
                   bif decide ((1 : Nat) = (1 : Nat) ∧ (0 : Int) ≤ n ∧ n < (↑gs.length : Int)) then
                     bif isOf (LT.i IntKind.i64) (nthD (nthD gs n.toNat).cells (0 : Nat)) then
                       bif
                           (bif false then true else decide (intOf (nthD (nthD gs n.toNat).cells (0 : Nat)) ≥ i)) ==
                             false then
                         bif decide ((1 : Nat) = (1 : Nat) ∧ (0 : Int) ≤ n ∧ n < (↑gs.length : Int)) then
                           bif isOf (LT.i IntKind.i64) (nthD (nthD gs n.toNat).cells (0 : Nat)) then
                             bif
                                 decide
                                   ((5 : Nat) = (5 : Nat) ∧
                                     (0 : Int) ≤ intOf (nthD (nthD gs n.toNat).cells (0 : Nat)) ∧
                                       intOf (nthD (nthD gs n.toNat).cells (0 : Nat)) < (↑l.length : Int)) then
                               bif
                                   testAll
                                     ([LT.i IntKind.i64] ++
                                       ([LT.i IntKind.u32] ++
                                         ([LT.i IntKind.u32] ++ ([LT.i IntKind.i64] ++ ([LT.sl] ++ [])))))
                                     (0 : Nat) (nthD l (intOf (nthD (nthD gs n.toNat).cells (0 : Nat))).toNat).cells then
                                 bif decide ((5 : Nat) = (5 : Nat) ∧ (0 : Int) ≤ i ∧ i < (↑l.length : Int)) then
                                   bif
                                       testAll
                                         ([LT.i IntKind.i64] ++
                                           ([LT.i IntKind.u32] ++
                                             ([LT.i IntKind.u32] ++ ([LT.i IntKind.i64] ++ ([LT.sl] ++ [])))))
                                         (0 : Nat) (nthD l i.toNat).cells then
                                     bif
                                         ca
                                           (szOf
                                             (nthD (nthD l (intOf (nthD (nthD gs n.toNat).cells (0 : Nat))).toNat).cells
                                               (4 : Nat)))
                                           (rowL
                                             (nthD (nthD l (intOf (nthD (nthD gs n.toNat).cells (0 : Nat))).toNat).cells
                                               (4 : Nat)))
                                           (szOf (nthD (nthD l i.toNat).cells (4 : Nat)))
                                           (rowL (nthD (nthD l i.toNat).cells (4 : Nat))) then
                                       bif
                                           bif false then true
                                           else
                                             !ga
                                                 (intOf
                                                   (nthD
                                                     (nthD l (intOf (nthD (nthD gs n.toNat).cells (0 : Nat))).toNat).cells
                                                     (0 : Nat)))
                                                 (intOf
                                                   (nthD
                                                     (nthD l (intOf (nthD (nthD gs n.toNat).cells (0 : Nat))).toNat).cells
                                                     (1 : Nat)))
                                                 (intOf
                                                   (nthD
                                                     (nthD l (intOf (nthD (nthD gs n.toNat).cells (0 : Nat))).toNat).cells
                                                     (2 : Nat)))
                                                 (rowL
                                                   (nthD
                                                     (nthD l (intOf (nthD (nthD gs n.toNat).cells (0 : Nat))).toNat).cells
                                                     (4 : Nat)))
                                                 (intOf (nthD (nthD l i.toNat).cells (0 : Nat)))
                                                 (intOf (nthD (nthD l i.toNat).cells (1 : Nat)))
                                                 (intOf (nthD (nthD l i.toNat).cells (2 : Nat)))
                                                 (rowL (nthD (nthD l i.toNat).cells (4 : Nat))) then
                                         some
                                           (Ex.ret,
                                             Sx (8 : Nat)
                                               [IV.fsl nl cl (nat_lit 5) l, IV.fsl nl' cl' (nat_lit 1) gs, IV.bool true,
                                                 IV.int IntKind.i64 n, IV.int IntKind.i64 i, IV.undef]
                                               [])
                                       else
                                         bif sameS (alV nl cl l nl' cl' gs false n i (.int .i64 0)) [] then
                                           some
                                             (Ex.normal,
                                               Sx (8 : Nat)
                                                 [IV.fsl nl cl (nat_lit 5) l, IV.fsl nl' cl' (nat_lit 1) gs, IV.bool false,
                                                   IV.int IntKind.i64 (IntKind.i64.wrap (n + (1 : Int))),
                                                   IV.int IntKind.i64 (IntKind.i64.wrap (i + (1 : Int))),
                                                   IV.int IntKind.i64 n]
                                                 [])
                                         else none
                                     else none
                                   else none
                                 else none
                               else none
                             else none
                           else none
                         else none
                       else
                         some
                           (Ex.ret,
                             Sx (8 : Nat)
                               [IV.fsl nl cl (nat_lit 5) l, IV.fsl nl' cl' (nat_lit 1) gs, IV.bool true,
                                 IV.int IntKind.i64 n, IV.int IntKind.i64 i, IV.undef]
                               [])
                     else none
                   else none
                 else
                   some
                     (Ex.ret,
                       Sx (8 : Nat)
                         [IV.fsl nl cl (nat_lit 5) l, IV.fsl nl' cl' (nat_lit 1) gs, IV.bool true, IV.int IntKind.i64 n,
                           IV.int IntKind.i64 i, IV.undef]
                         [])
               else none
             else none
           else
             some
               (Ex.ret,
                 Sx (8 : Nat)
                   [IV.fsl nl cl (nat_lit 5) l, IV.fsl nl' cl' (nat_lit 1) gs, IV.bool true, IV.int IntKind.i64 n,
                     IV.int IntKind.i64 i, IV.undef]
                   [])
       else none
     else none
   else
     some
       (Ex.exit (nat_lit 0),
         Sx (8 : Nat)
           [IV.fsl nl cl (nat_lit 5) l, IV.fsl nl' cl' (nat_lit 1) gs, IV.bool false, IV.int IntKind.i64 n,
             IV.int IntKind.i64 i, IV.undef]
           [])) := by kernel_rfl
theorem al_q0 (cl0 gl0 co : List IV → Bool) (go : List IV → List IV) (cp gp : List IV → Bool) (ca : Nat → List IV → Nat → List IV → Bool) (ga : Int → Int → Int → List IV → Int → Int → Int → List IV → Bool) (ct : List IV → Bool) (gt : List IV → Int) (nl : Option Bool) (cl : Bool) (l : List IV) (nl' : Option Bool) (cl' : Bool) (gs : List IV) (n i k : Int) : Rl (tabA cl0 gl0 co go cp gp ca ga ct gt) (ltab [(8, 62618, LF 8 0 (oneF (alV nl cl l nl' cl' gs false n i (.int .i64 0)) [] .ret (alV nl cl l nl' cl' gs true n i (.int .i64 k)) []))]) 0 8 122 (Sx 8 (alV nl cl l nl' cl' gs false n i .undef) []) =
  (bif decide (i < (↑l.length : Int)) then
     bif decide ((5 : Nat) = (5 : Nat) ∧ (0 : Int) ≤ i ∧ i < (↑l.length : Int)) then
       bif isOf (LT.i IntKind.i64) (nthD (List.drop (0 : Nat) (nthD l i.toNat).cells) (0 : Nat)) then
         bif intOf (nthD (List.drop (0 : Nat) (nthD l i.toNat).cells) (0 : Nat)) != (3 : Int) then
           some
             (Ex.normal,
               Sx (8 : Nat)
                 [IV.fsl nl cl (nat_lit 5) l, IV.fsl nl' cl' (nat_lit 1) gs, IV.bool false, IV.int IntKind.i64 n,
                   IV.int IntKind.i64 (IntKind.i64.wrap (i + (1 : Int))), IV.undef]
                 [])
         else
           bif decide (n ≥ (↑gs.length : Int)) == false then
             bif decide ((1 : Nat) = (1 : Nat) ∧ (0 : Int) ≤ n ∧ n < (↑gs.length : Int)) then
               bif isOf (LT.i IntKind.i64) (nthD (nthD gs n.toNat).cells (0 : Nat)) then
                 bif
                     (bif false then true else decide (intOf (nthD (nthD gs n.toNat).cells (0 : Nat)) < (0 : Int))) ==
                       false then
                   bif decide ((1 : Nat) = (1 : Nat) ∧ (0 : Int) ≤ n ∧ n < (↑gs.length : Int)) then
                     bif isOf (LT.i IntKind.i64) (nthD (nthD gs n.toNat).cells (0 : Nat)) then
                       bif
                           (bif false then true else decide (intOf (nthD (nthD gs n.toNat).cells (0 : Nat)) ≥ i)) ==
                             false then
                         bif decide ((1 : Nat) = (1 : Nat) ∧ (0 : Int) ≤ n ∧ n < (↑gs.length : Int)) then
                           bif isOf (LT.i IntKind.i64) (nthD (nthD gs n.toNat).cells (0 : Nat)) then
                             bif
                                 decide
                                   ((5 : Nat) = (5 : Nat) ∧
                                     (0 : Int) ≤ intOf (nthD (nthD gs n.toNat).cells (0 : Nat)) ∧
                                       intOf (nthD (nthD gs n.toNat).cells (0 : Nat)) < (↑l.length : Int)) then
                               bif
                                   testAll
                                     ([LT.i IntKind.i64] ++
                                       ([LT.i IntKind.u32] ++
                                         ([LT.i IntKind.u32] ++ ([LT.i IntKind.i64] ++ ([LT.sl] ++ [])))))
                                     (0 : Nat) (nthD l (intOf (nthD (nthD gs n.toNat).cells (0 : Nat))).toNat).cells then
                                 bif decide ((5 : Nat) = (5 : Nat) ∧ (0 : Int) ≤ i ∧ i < (↑l.length : Int)) then
                                   bif
                                       testAll
                                         ([LT.i IntKind.i64] ++
                                           ([LT.i IntKind.u32] ++
                                             ([LT.i IntKind.u32] ++ ([LT.i IntKind.i64] ++ ([LT.sl] ++ [])))))
                                         (0 : Nat) (nthD l i.toNat).cells then
                                     bif
                                         ca
                                           (szOf
                                             (nthD (nthD l (intOf (nthD (nthD gs n.toNat).cells (0 : Nat))).toNat).cells
                                               (4 : Nat)))
                                           (rowL
                                             (nthD (nthD l (intOf (nthD (nthD gs n.toNat).cells (0 : Nat))).toNat).cells
                                               (4 : Nat)))
                                           (szOf (nthD (nthD l i.toNat).cells (4 : Nat)))
                                           (rowL (nthD (nthD l i.toNat).cells (4 : Nat))) then
                                       bif
                                           bif false then true
                                           else
                                             !ga
                                                 (intOf
                                                   (nthD
                                                     (nthD l (intOf (nthD (nthD gs n.toNat).cells (0 : Nat))).toNat).cells
                                                     (0 : Nat)))
                                                 (intOf
                                                   (nthD
                                                     (nthD l (intOf (nthD (nthD gs n.toNat).cells (0 : Nat))).toNat).cells
                                                     (1 : Nat)))
                                                 (intOf
                                                   (nthD
                                                     (nthD l (intOf (nthD (nthD gs n.toNat).cells (0 : Nat))).toNat).cells
                                                     (2 : Nat)))
                                                 (rowL
                                                   (nthD
                                                     (nthD l (intOf (nthD (nthD gs n.toNat).cells (0 : Nat))).toNat).cells
                                                     (4 : Nat)))
                                                 (intOf (nthD (nthD l i.toNat).cells (0 : Nat)))
                                                 (intOf (nthD (nthD l i.toNat).cells (1 : Nat)))
                                                 (intOf (nthD (nthD l i.toNat).cells (2 : Nat)))
                                                 (rowL (nthD (nthD l i.toNat).cells (4 : Nat))) then
                                         some
                                           (Ex.ret,
                                             Sx (8 : Nat)
                                               [IV.fsl nl cl (nat_lit 5) l, IV.fsl nl' cl' (nat_lit 1) gs, IV.bool true,
                                                 IV.int IntKind.i64 n, IV.int IntKind.i64 i, IV.undef]
                                               [])
                                       else
                                         bif sameS (alV nl cl l nl' cl' gs false n i (.int .i64 0)) [] then
                                           some
                                             (Ex.ret,
                                               Sx (8 : Nat)
                                                 [IV.fsl nl cl (nat_lit 5) l, IV.fsl nl' cl' (nat_lit 1) gs, IV.bool true,
                                                   IV.int IntKind.i64 n, IV.int IntKind.i64 i, IV.int IntKind.i64 k]
                                                 [])
                                         else none
                                     else none
                                   else none
                                 else none
                               else none
                             else none
                           else none
                         else none
                       else
                         some
                           (Ex.ret,
                             Sx (8 : Nat)
                               [IV.fsl nl cl (nat_lit 5) l, IV.fsl nl' cl' (nat_lit 1) gs, IV.bool true,
                                 IV.int IntKind.i64 n, IV.int IntKind.i64 i, IV.undef]
                               [])
                     else none
                   else none
                 else
                   some
                     (Ex.ret,
                       Sx (8 : Nat)
                         [IV.fsl nl cl (nat_lit 5) l, IV.fsl nl' cl' (nat_lit 1) gs, IV.bool true, IV.int IntKind.i64 n,
                           IV.int IntKind.i64 i, IV.undef]
                         [])
               else none
             else none
           else
             some
               (Ex.ret,
                 Sx (8 : Nat)
                   [IV.fsl nl cl (nat_lit 5) l, IV.fsl nl' cl' (nat_lit 1) gs, IV.bool true, IV.int IntKind.i64 n,
                     IV.int IntKind.i64 i, IV.undef]
                   [])
       else none
     else none
   else
     some
       (Ex.exit (nat_lit 0),
         Sx (8 : Nat)
           [IV.fsl nl cl (nat_lit 5) l, IV.fsl nl' cl' (nat_lit 1) gs, IV.bool false, IV.int IntKind.i64 n,
             IV.int IntKind.i64 i, IV.undef]
           [])) := by kernel_rfl
theorem al_n0 (cl0 gl0 co : List IV → Bool) (go : List IV → List IV) (cp gp : List IV → Bool) (ca : Nat → List IV → Nat → List IV → Bool) (ga : Int → Int → Int → List IV → Int → Int → Int → List IV → Bool) (ct : List IV → Bool) (gt : List IV → Int) (nl : Option Bool) (cl : Bool) (l : List IV) (nl' : Option Bool) (cl' : Bool) (gs : List IV) (n i : Int) : Rl (tabA cl0 gl0 co go cp gp ca ga ct gt) (ltab [(8, 62618, noL)]) 0 8 122 (Sx 8 (alV nl cl l nl' cl' gs false n i .undef) []) =
  (bif decide (i < (↑l.length : Int)) then
     bif decide ((5 : Nat) = (5 : Nat) ∧ (0 : Int) ≤ i ∧ i < (↑l.length : Int)) then
       bif isOf (LT.i IntKind.i64) (nthD (List.drop (0 : Nat) (nthD l i.toNat).cells) (0 : Nat)) then
         bif intOf (nthD (List.drop (0 : Nat) (nthD l i.toNat).cells) (0 : Nat)) != (3 : Int) then
           some
             (Ex.normal,
               Sx (8 : Nat)
                 [IV.fsl nl cl (nat_lit 5) l, IV.fsl nl' cl' (nat_lit 1) gs, IV.bool false, IV.int IntKind.i64 n,
                   IV.int IntKind.i64 (IntKind.i64.wrap (i + (1 : Int))), IV.undef]
                 [])
         else
           bif decide (n ≥ (↑gs.length : Int)) == false then
             bif decide ((1 : Nat) = (1 : Nat) ∧ (0 : Int) ≤ n ∧ n < (↑gs.length : Int)) then
               bif isOf (LT.i IntKind.i64) (nthD (nthD gs n.toNat).cells (0 : Nat)) then
                 bif
                     (bif false then true else decide (intOf (nthD (nthD gs n.toNat).cells (0 : Nat)) < (0 : Int))) ==
                       false then
                   bif decide ((1 : Nat) = (1 : Nat) ∧ (0 : Int) ≤ n ∧ n < (↑gs.length : Int)) then
                     bif isOf (LT.i IntKind.i64) (nthD (nthD gs n.toNat).cells (0 : Nat)) then
                       bif
                           (bif false then true else decide (intOf (nthD (nthD gs n.toNat).cells (0 : Nat)) ≥ i)) ==
                             false then
                         bif decide ((1 : Nat) = (1 : Nat) ∧ (0 : Int) ≤ n ∧ n < (↑gs.length : Int)) then
                           bif isOf (LT.i IntKind.i64) (nthD (nthD gs n.toNat).cells (0 : Nat)) then
                             bif
                                 decide
                                   ((5 : Nat) = (5 : Nat) ∧
                                     (0 : Int) ≤ intOf (nthD (nthD gs n.toNat).cells (0 : Nat)) ∧
                                       intOf (nthD (nthD gs n.toNat).cells (0 : Nat)) < (↑l.length : Int)) then
                               bif
                                   testAll
                                     ([LT.i IntKind.i64] ++
                                       ([LT.i IntKind.u32] ++
                                         ([LT.i IntKind.u32] ++ ([LT.i IntKind.i64] ++ ([LT.sl] ++ [])))))
                                     (0 : Nat) (nthD l (intOf (nthD (nthD gs n.toNat).cells (0 : Nat))).toNat).cells then
                                 bif decide ((5 : Nat) = (5 : Nat) ∧ (0 : Int) ≤ i ∧ i < (↑l.length : Int)) then
                                   bif
                                       testAll
                                         ([LT.i IntKind.i64] ++
                                           ([LT.i IntKind.u32] ++
                                             ([LT.i IntKind.u32] ++ ([LT.i IntKind.i64] ++ ([LT.sl] ++ [])))))
                                         (0 : Nat) (nthD l i.toNat).cells then
                                     bif
                                         ca
                                           (szOf
                                             (nthD (nthD l (intOf (nthD (nthD gs n.toNat).cells (0 : Nat))).toNat).cells
                                               (4 : Nat)))
                                           (rowL
                                             (nthD (nthD l (intOf (nthD (nthD gs n.toNat).cells (0 : Nat))).toNat).cells
                                               (4 : Nat)))
                                           (szOf (nthD (nthD l i.toNat).cells (4 : Nat)))
                                           (rowL (nthD (nthD l i.toNat).cells (4 : Nat))) then
                                       bif
                                           bif false then true
                                           else
                                             !ga
                                                 (intOf
                                                   (nthD
                                                     (nthD l (intOf (nthD (nthD gs n.toNat).cells (0 : Nat))).toNat).cells
                                                     (0 : Nat)))
                                                 (intOf
                                                   (nthD
                                                     (nthD l (intOf (nthD (nthD gs n.toNat).cells (0 : Nat))).toNat).cells
                                                     (1 : Nat)))
                                                 (intOf
                                                   (nthD
                                                     (nthD l (intOf (nthD (nthD gs n.toNat).cells (0 : Nat))).toNat).cells
                                                     (2 : Nat)))
                                                 (rowL
                                                   (nthD
                                                     (nthD l (intOf (nthD (nthD gs n.toNat).cells (0 : Nat))).toNat).cells
                                                     (4 : Nat)))
                                                 (intOf (nthD (nthD l i.toNat).cells (0 : Nat)))
                                                 (intOf (nthD (nthD l i.toNat).cells (1 : Nat)))
                                                 (intOf (nthD (nthD l i.toNat).cells (2 : Nat)))
                                                 (rowL (nthD (nthD l i.toNat).cells (4 : Nat))) then
                                         some
                                           (Ex.ret,
                                             Sx (8 : Nat)
                                               [IV.fsl nl cl (nat_lit 5) l, IV.fsl nl' cl' (nat_lit 1) gs, IV.bool true,
                                                 IV.int IntKind.i64 n, IV.int IntKind.i64 i, IV.undef]
                                               [])
                                       else none
                                     else none
                                   else none
                                 else none
                               else none
                             else none
                           else none
                         else none
                       else
                         some
                           (Ex.ret,
                             Sx (8 : Nat)
                               [IV.fsl nl cl (nat_lit 5) l, IV.fsl nl' cl' (nat_lit 1) gs, IV.bool true,
                                 IV.int IntKind.i64 n, IV.int IntKind.i64 i, IV.undef]
                               [])
                     else none
                   else none
                 else
                   some
                     (Ex.ret,
                       Sx (8 : Nat)
                         [IV.fsl nl cl (nat_lit 5) l, IV.fsl nl' cl' (nat_lit 1) gs, IV.bool true, IV.int IntKind.i64 n,
                           IV.int IntKind.i64 i, IV.undef]
                         [])
               else none
             else none
           else
             some
               (Ex.ret,
                 Sx (8 : Nat)
                   [IV.fsl nl cl (nat_lit 5) l, IV.fsl nl' cl' (nat_lit 1) gs, IV.bool true, IV.int IntKind.i64 n,
                     IV.int IntKind.i64 i, IV.undef]
                   [])
       else none
     else none
   else
     some
       (Ex.exit (nat_lit 0),
         Sx (8 : Nat)
           [IV.fsl nl cl (nat_lit 5) l, IV.fsl nl' cl' (nat_lit 1) gs, IV.bool false, IV.int IntKind.i64 n,
             IV.int IntKind.i64 i, IV.undef]
           [])) := by kernel_rfl
theorem al_r1 (cl0 gl0 co : List IV → Bool) (go : List IV → List IV) (cp gp : List IV → Bool) (ca : Nat → List IV → Nat → List IV → Bool) (ga : Int → Int → Int → List IV → Int → Int → Int → List IV → Bool) (ct : List IV → Bool) (gt : List IV → Int) (nl : Option Bool) (cl : Bool) (l : List IV) (nl' : Option Bool) (cl' : Bool) (gs : List IV) (n i : Int) (d : Int) : Rl (tabA cl0 gl0 co go cp gp ca ga ct gt) (ltab [(8, 62618, LF 8 0 (oneF (alV nl cl l nl' cl' gs false n i (.int .i64 0)) [] (.exit 2) (alV nl cl l nl' cl' gs false n i (.int .i64 n)) []))]) 0 8 122 (Sx 8 (alV nl cl l nl' cl' gs false n i (.int .i64 d)) []) =
  (bif decide (i < (↑l.length : Int)) then
     bif decide ((5 : Nat) = (5 : Nat) ∧ (0 : Int) ≤ i ∧ i < (↑l.length : Int)) then
       bif isOf (LT.i IntKind.i64) (nthD (List.drop (0 : Nat) (nthD l i.toNat).cells) (0 : Nat)) then
         bif intOf (nthD (List.drop (0 : Nat) (nthD l i.toNat).cells) (0 : Nat)) != (3 : Int) then
           some
             (Ex.normal,
               Sx (8 : Nat)
                 [IV.fsl nl cl (nat_lit 5) l, IV.fsl nl' cl' (nat_lit 1) gs, IV.bool false, IV.int IntKind.i64 n,
                   IV.int IntKind.i64 (IntKind.i64.wrap (i + (1 : Int))), IV.int IntKind.i64 d]
                 [])
         else
           bif decide (n ≥ (↑gs.length : Int)) == false then
             bif decide ((1 : Nat) = (1 : Nat) ∧ (0 : Int) ≤ n ∧ n < (↑gs.length : Int)) then
               bif isOf (LT.i IntKind.i64) (nthD (nthD gs n.toNat).cells (0 : Nat)) then
                 bif
                     (bif false then true else decide (intOf (nthD (nthD gs n.toNat).cells (0 : Nat)) < (0 : Int))) ==
                       false then
                   bif decide ((1 : Nat) = (1 : Nat) ∧ (0 : Int) ≤ n ∧ n < (↑gs.length : Int)) then
                     bif isOf (LT.i IntKind.i64) (nthD (nthD gs n.toNat).cells (0 : Nat)) then
                       bif
                           (bif false then true else decide (intOf (nthD (nthD gs n.toNat).cells (0 : Nat)) ≥ i)) ==
                             false then
                         bif decide ((1 : Nat) = (1 : Nat) ∧ (0 : Int) ≤ n ∧ n < (↑gs.length : Int)) then
                           bif isOf (LT.i IntKind.i64) (nthD (nthD gs n.toNat).cells (0 : Nat)) then
                             bif
                                 decide
                                   ((5 : Nat) = (5 : Nat) ∧
                                     (0 : Int) ≤ intOf (nthD (nthD gs n.toNat).cells (0 : Nat)) ∧
                                       intOf (nthD (nthD gs n.toNat).cells (0 : Nat)) < (↑l.length : Int)) then
                               bif
                                   testAll
                                     ([LT.i IntKind.i64] ++
                                       ([LT.i IntKind.u32] ++
                                         ([LT.i IntKind.u32] ++ ([LT.i IntKind.i64] ++ ([LT.sl] ++ [])))))
                                     (0 : Nat) (nthD l (intOf (nthD (nthD gs n.toNat).cells (0 : Nat))).toNat).cells then
                                 bif decide ((5 : Nat) = (5 : Nat) ∧ (0 : Int) ≤ i ∧ i < (↑l.length : Int)) then
                                   bif
                                       testAll
                                         ([LT.i IntKind.i64] ++
                                           ([LT.i IntKind.u32] ++
                                             ([LT.i IntKind.u32] ++ ([LT.i IntKind.i64] ++ ([LT.sl] ++ [])))))
                                         (0 : Nat) (nthD l i.toNat).cells then
                                     bif
                                         ca
                                           (szOf
                                             (nthD (nthD l (intOf (nthD (nthD gs n.toNat).cells (0 : Nat))).toNat).cells
                                               (4 : Nat)))
                                           (rowL
                                             (nthD (nthD l (intOf (nthD (nthD gs n.toNat).cells (0 : Nat))).toNat).cells
                                               (4 : Nat)))
                                           (szOf (nthD (nthD l i.toNat).cells (4 : Nat)))
                                           (rowL (nthD (nthD l i.toNat).cells (4 : Nat))) then
                                       bif
                                           bif false then true
                                           else
                                             !ga
                                                 (intOf
                                                   (nthD
                                                     (nthD l (intOf (nthD (nthD gs n.toNat).cells (0 : Nat))).toNat).cells
                                                     (0 : Nat)))
                                                 (intOf
                                                   (nthD
                                                     (nthD l (intOf (nthD (nthD gs n.toNat).cells (0 : Nat))).toNat).cells
                                                     (1 : Nat)))
                                                 (intOf
                                                   (nthD
                                                     (nthD l (intOf (nthD (nthD gs n.toNat).cells (0 : Nat))).toNat).cells
                                                     (2 : Nat)))
                                                 (rowL
                                                   (nthD
                                                     (nthD l (intOf (nthD (nthD gs n.toNat).cells (0 : Nat))).toNat).cells
                                                     (4 : Nat)))
                                                 (intOf (nthD (nthD l i.toNat).cells (0 : Nat)))
                                                 (intOf (nthD (nthD l i.toNat).cells (1 : Nat)))
                                                 (intOf (nthD (nthD l i.toNat).cells (2 : Nat)))
                                                 (rowL (nthD (nthD l i.toNat).cells (4 : Nat))) then
                                         some
                                           (Ex.ret,
                                             Sx (8 : Nat)
                                               [IV.fsl nl cl (nat_lit 5) l, IV.fsl nl' cl' (nat_lit 1) gs, IV.bool true,
                                                 IV.int IntKind.i64 n, IV.int IntKind.i64 i, IV.int IntKind.i64 d]
                                               [])
                                       else
                                         bif sameS (alV nl cl l nl' cl' gs false n i (.int .i64 0)) [] then
                                           some
                                             (Ex.normal,
                                               Sx (8 : Nat)
                                                 [IV.fsl nl cl (nat_lit 5) l, IV.fsl nl' cl' (nat_lit 1) gs, IV.bool false,
                                                   IV.int IntKind.i64 (IntKind.i64.wrap (n + (1 : Int))),
                                                   IV.int IntKind.i64 (IntKind.i64.wrap (i + (1 : Int))),
                                                   IV.int IntKind.i64 n]
                                                 [])
                                         else none
                                     else none
                                   else none
                                 else none
                               else none
                             else none
                           else none
                         else none
                       else
                         some
                           (Ex.ret,
                             Sx (8 : Nat)
                               [IV.fsl nl cl (nat_lit 5) l, IV.fsl nl' cl' (nat_lit 1) gs, IV.bool true,
                                 IV.int IntKind.i64 n, IV.int IntKind.i64 i, IV.int IntKind.i64 d]
                               [])
                     else none
                   else none
                 else
                   some
                     (Ex.ret,
                       Sx (8 : Nat)
                         [IV.fsl nl cl (nat_lit 5) l, IV.fsl nl' cl' (nat_lit 1) gs, IV.bool true, IV.int IntKind.i64 n,
                           IV.int IntKind.i64 i, IV.int IntKind.i64 d]
                         [])
               else none
             else none
           else
             some
               (Ex.ret,
                 Sx (8 : Nat)
                   [IV.fsl nl cl (nat_lit 5) l, IV.fsl nl' cl' (nat_lit 1) gs, IV.bool true, IV.int IntKind.i64 n,
                     IV.int IntKind.i64 i, IV.int IntKind.i64 d]
                   [])
       else none
     else none
   else
     some
       (Ex.exit (nat_lit 0),
         Sx (8 : Nat)
           [IV.fsl nl cl (nat_lit 5) l, IV.fsl nl' cl' (nat_lit 1) gs, IV.bool false, IV.int IntKind.i64 n,
             IV.int IntKind.i64 i, IV.int IntKind.i64 d]
           [])) := by kernel_rfl
theorem al_q1 (cl0 gl0 co : List IV → Bool) (go : List IV → List IV) (cp gp : List IV → Bool) (ca : Nat → List IV → Nat → List IV → Bool) (ga : Int → Int → Int → List IV → Int → Int → Int → List IV → Bool) (ct : List IV → Bool) (gt : List IV → Int) (nl : Option Bool) (cl : Bool) (l : List IV) (nl' : Option Bool) (cl' : Bool) (gs : List IV) (n i k : Int) (d : Int) : Rl (tabA cl0 gl0 co go cp gp ca ga ct gt) (ltab [(8, 62618, LF 8 0 (oneF (alV nl cl l nl' cl' gs false n i (.int .i64 0)) [] .ret (alV nl cl l nl' cl' gs true n i (.int .i64 k)) []))]) 0 8 122 (Sx 8 (alV nl cl l nl' cl' gs false n i (.int .i64 d)) []) =
  (bif decide (i < (↑l.length : Int)) then
     bif decide ((5 : Nat) = (5 : Nat) ∧ (0 : Int) ≤ i ∧ i < (↑l.length : Int)) then
       bif isOf (LT.i IntKind.i64) (nthD (List.drop (0 : Nat) (nthD l i.toNat).cells) (0 : Nat)) then
         bif intOf (nthD (List.drop (0 : Nat) (nthD l i.toNat).cells) (0 : Nat)) != (3 : Int) then
           some
             (Ex.normal,
               Sx (8 : Nat)
                 [IV.fsl nl cl (nat_lit 5) l, IV.fsl nl' cl' (nat_lit 1) gs, IV.bool false, IV.int IntKind.i64 n,
                   IV.int IntKind.i64 (IntKind.i64.wrap (i + (1 : Int))), IV.int IntKind.i64 d]
                 [])
         else
           bif decide (n ≥ (↑gs.length : Int)) == false then
             bif decide ((1 : Nat) = (1 : Nat) ∧ (0 : Int) ≤ n ∧ n < (↑gs.length : Int)) then
               bif isOf (LT.i IntKind.i64) (nthD (nthD gs n.toNat).cells (0 : Nat)) then
                 bif
                     (bif false then true else decide (intOf (nthD (nthD gs n.toNat).cells (0 : Nat)) < (0 : Int))) ==
                       false then
                   bif decide ((1 : Nat) = (1 : Nat) ∧ (0 : Int) ≤ n ∧ n < (↑gs.length : Int)) then
                     bif isOf (LT.i IntKind.i64) (nthD (nthD gs n.toNat).cells (0 : Nat)) then
                       bif
                           (bif false then true else decide (intOf (nthD (nthD gs n.toNat).cells (0 : Nat)) ≥ i)) ==
                             false then
                         bif decide ((1 : Nat) = (1 : Nat) ∧ (0 : Int) ≤ n ∧ n < (↑gs.length : Int)) then
                           bif isOf (LT.i IntKind.i64) (nthD (nthD gs n.toNat).cells (0 : Nat)) then
                             bif
                                 decide
                                   ((5 : Nat) = (5 : Nat) ∧
                                     (0 : Int) ≤ intOf (nthD (nthD gs n.toNat).cells (0 : Nat)) ∧
                                       intOf (nthD (nthD gs n.toNat).cells (0 : Nat)) < (↑l.length : Int)) then
                               bif
                                   testAll
                                     ([LT.i IntKind.i64] ++
                                       ([LT.i IntKind.u32] ++
                                         ([LT.i IntKind.u32] ++ ([LT.i IntKind.i64] ++ ([LT.sl] ++ [])))))
                                     (0 : Nat) (nthD l (intOf (nthD (nthD gs n.toNat).cells (0 : Nat))).toNat).cells then
                                 bif decide ((5 : Nat) = (5 : Nat) ∧ (0 : Int) ≤ i ∧ i < (↑l.length : Int)) then
                                   bif
                                       testAll
                                         ([LT.i IntKind.i64] ++
                                           ([LT.i IntKind.u32] ++
                                             ([LT.i IntKind.u32] ++ ([LT.i IntKind.i64] ++ ([LT.sl] ++ [])))))
                                         (0 : Nat) (nthD l i.toNat).cells then
                                     bif
                                         ca
                                           (szOf
                                             (nthD (nthD l (intOf (nthD (nthD gs n.toNat).cells (0 : Nat))).toNat).cells
                                               (4 : Nat)))
                                           (rowL
                                             (nthD (nthD l (intOf (nthD (nthD gs n.toNat).cells (0 : Nat))).toNat).cells
                                               (4 : Nat)))
                                           (szOf (nthD (nthD l i.toNat).cells (4 : Nat)))
                                           (rowL (nthD (nthD l i.toNat).cells (4 : Nat))) then
                                       bif
                                           bif false then true
                                           else
                                             !ga
                                                 (intOf
                                                   (nthD
                                                     (nthD l (intOf (nthD (nthD gs n.toNat).cells (0 : Nat))).toNat).cells
                                                     (0 : Nat)))
                                                 (intOf
                                                   (nthD
                                                     (nthD l (intOf (nthD (nthD gs n.toNat).cells (0 : Nat))).toNat).cells
                                                     (1 : Nat)))
                                                 (intOf
                                                   (nthD
                                                     (nthD l (intOf (nthD (nthD gs n.toNat).cells (0 : Nat))).toNat).cells
                                                     (2 : Nat)))
                                                 (rowL
                                                   (nthD
                                                     (nthD l (intOf (nthD (nthD gs n.toNat).cells (0 : Nat))).toNat).cells
                                                     (4 : Nat)))
                                                 (intOf (nthD (nthD l i.toNat).cells (0 : Nat)))
                                                 (intOf (nthD (nthD l i.toNat).cells (1 : Nat)))
                                                 (intOf (nthD (nthD l i.toNat).cells (2 : Nat)))
                                                 (rowL (nthD (nthD l i.toNat).cells (4 : Nat))) then
                                         some
                                           (Ex.ret,
                                             Sx (8 : Nat)
                                               [IV.fsl nl cl (nat_lit 5) l, IV.fsl nl' cl' (nat_lit 1) gs, IV.bool true,
                                                 IV.int IntKind.i64 n, IV.int IntKind.i64 i, IV.int IntKind.i64 d]
                                               [])
                                       else
                                         bif sameS (alV nl cl l nl' cl' gs false n i (.int .i64 0)) [] then
                                           some
                                             (Ex.ret,
                                               Sx (8 : Nat)
                                                 [IV.fsl nl cl (nat_lit 5) l, IV.fsl nl' cl' (nat_lit 1) gs, IV.bool true,
                                                   IV.int IntKind.i64 n, IV.int IntKind.i64 i, IV.int IntKind.i64 k]
                                                 [])
                                         else none
                                     else none
                                   else none
                                 else none
                               else none
                             else none
                           else none
                         else none
                       else
                         some
                           (Ex.ret,
                             Sx (8 : Nat)
                               [IV.fsl nl cl (nat_lit 5) l, IV.fsl nl' cl' (nat_lit 1) gs, IV.bool true,
                                 IV.int IntKind.i64 n, IV.int IntKind.i64 i, IV.int IntKind.i64 d]
                               [])
                     else none
                   else none
                 else
                   some
                     (Ex.ret,
                       Sx (8 : Nat)
                         [IV.fsl nl cl (nat_lit 5) l, IV.fsl nl' cl' (nat_lit 1) gs, IV.bool true, IV.int IntKind.i64 n,
                           IV.int IntKind.i64 i, IV.int IntKind.i64 d]
                         [])
               else none
             else none
           else
             some
               (Ex.ret,
                 Sx (8 : Nat)
                   [IV.fsl nl cl (nat_lit 5) l, IV.fsl nl' cl' (nat_lit 1) gs, IV.bool true, IV.int IntKind.i64 n,
                     IV.int IntKind.i64 i, IV.int IntKind.i64 d]
                   [])
       else none
     else none
   else
     some
       (Ex.exit (nat_lit 0),
         Sx (8 : Nat)
           [IV.fsl nl cl (nat_lit 5) l, IV.fsl nl' cl' (nat_lit 1) gs, IV.bool false, IV.int IntKind.i64 n,
             IV.int IntKind.i64 i, IV.int IntKind.i64 d]
           [])) := by kernel_rfl
theorem al_n1 (cl0 gl0 co : List IV → Bool) (go : List IV → List IV) (cp gp : List IV → Bool) (ca : Nat → List IV → Nat → List IV → Bool) (ga : Int → Int → Int → List IV → Int → Int → Int → List IV → Bool) (ct : List IV → Bool) (gt : List IV → Int) (nl : Option Bool) (cl : Bool) (l : List IV) (nl' : Option Bool) (cl' : Bool) (gs : List IV) (n i : Int) (d : Int) : Rl (tabA cl0 gl0 co go cp gp ca ga ct gt) (ltab [(8, 62618, noL)]) 0 8 122 (Sx 8 (alV nl cl l nl' cl' gs false n i (.int .i64 d)) []) =
  (bif decide (i < (↑l.length : Int)) then
     bif decide ((5 : Nat) = (5 : Nat) ∧ (0 : Int) ≤ i ∧ i < (↑l.length : Int)) then
       bif isOf (LT.i IntKind.i64) (nthD (List.drop (0 : Nat) (nthD l i.toNat).cells) (0 : Nat)) then
         bif intOf (nthD (List.drop (0 : Nat) (nthD l i.toNat).cells) (0 : Nat)) != (3 : Int) then
           some
             (Ex.normal,
               Sx (8 : Nat)
                 [IV.fsl nl cl (nat_lit 5) l, IV.fsl nl' cl' (nat_lit 1) gs, IV.bool false, IV.int IntKind.i64 n,
                   IV.int IntKind.i64 (IntKind.i64.wrap (i + (1 : Int))), IV.int IntKind.i64 d]
                 [])
         else
           bif decide (n ≥ (↑gs.length : Int)) == false then
             bif decide ((1 : Nat) = (1 : Nat) ∧ (0 : Int) ≤ n ∧ n < (↑gs.length : Int)) then
               bif isOf (LT.i IntKind.i64) (nthD (nthD gs n.toNat).cells (0 : Nat)) then
                 bif
                     (bif false then true else decide (intOf (nthD (nthD gs n.toNat).cells (0 : Nat)) < (0 : Int))) ==
                       false then
                   bif decide ((1 : Nat) = (1 : Nat) ∧ (0 : Int) ≤ n ∧ n < (↑gs.length : Int)) then
                     bif isOf (LT.i IntKind.i64) (nthD (nthD gs n.toNat).cells (0 : Nat)) then
                       bif
                           (bif false then true else decide (intOf (nthD (nthD gs n.toNat).cells (0 : Nat)) ≥ i)) ==
                             false then
                         bif decide ((1 : Nat) = (1 : Nat) ∧ (0 : Int) ≤ n ∧ n < (↑gs.length : Int)) then
                           bif isOf (LT.i IntKind.i64) (nthD (nthD gs n.toNat).cells (0 : Nat)) then
                             bif
                                 decide
                                   ((5 : Nat) = (5 : Nat) ∧
                                     (0 : Int) ≤ intOf (nthD (nthD gs n.toNat).cells (0 : Nat)) ∧
                                       intOf (nthD (nthD gs n.toNat).cells (0 : Nat)) < (↑l.length : Int)) then
                               bif
                                   testAll
                                     ([LT.i IntKind.i64] ++
                                       ([LT.i IntKind.u32] ++
                                         ([LT.i IntKind.u32] ++ ([LT.i IntKind.i64] ++ ([LT.sl] ++ [])))))
                                     (0 : Nat) (nthD l (intOf (nthD (nthD gs n.toNat).cells (0 : Nat))).toNat).cells then
                                 bif decide ((5 : Nat) = (5 : Nat) ∧ (0 : Int) ≤ i ∧ i < (↑l.length : Int)) then
                                   bif
                                       testAll
                                         ([LT.i IntKind.i64] ++
                                           ([LT.i IntKind.u32] ++
                                             ([LT.i IntKind.u32] ++ ([LT.i IntKind.i64] ++ ([LT.sl] ++ [])))))
                                         (0 : Nat) (nthD l i.toNat).cells then
                                     bif
                                         ca
                                           (szOf
                                             (nthD (nthD l (intOf (nthD (nthD gs n.toNat).cells (0 : Nat))).toNat).cells
                                               (4 : Nat)))
                                           (rowL
                                             (nthD (nthD l (intOf (nthD (nthD gs n.toNat).cells (0 : Nat))).toNat).cells
                                               (4 : Nat)))
                                           (szOf (nthD (nthD l i.toNat).cells (4 : Nat)))
                                           (rowL (nthD (nthD l i.toNat).cells (4 : Nat))) then
                                       bif
                                           bif false then true
                                           else
                                             !ga
                                                 (intOf
                                                   (nthD
                                                     (nthD l (intOf (nthD (nthD gs n.toNat).cells (0 : Nat))).toNat).cells
                                                     (0 : Nat)))
                                                 (intOf
                                                   (nthD
                                                     (nthD l (intOf (nthD (nthD gs n.toNat).cells (0 : Nat))).toNat).cells
                                                     (1 : Nat)))
                                                 (intOf
                                                   (nthD
                                                     (nthD l (intOf (nthD (nthD gs n.toNat).cells (0 : Nat))).toNat).cells
                                                     (2 : Nat)))
                                                 (rowL
                                                   (nthD
                                                     (nthD l (intOf (nthD (nthD gs n.toNat).cells (0 : Nat))).toNat).cells
                                                     (4 : Nat)))
                                                 (intOf (nthD (nthD l i.toNat).cells (0 : Nat)))
                                                 (intOf (nthD (nthD l i.toNat).cells (1 : Nat)))
                                                 (intOf (nthD (nthD l i.toNat).cells (2 : Nat)))
                                                 (rowL (nthD (nthD l i.toNat).cells (4 : Nat))) then
                                         some
                                           (Ex.ret,
                                             Sx (8 : Nat)
                                               [IV.fsl nl cl (nat_lit 5) l, IV.fsl nl' cl' (nat_lit 1) gs, IV.bool true,
                                                 IV.int IntKind.i64 n, IV.int IntKind.i64 i, IV.int IntKind.i64 d]
                                               [])
                                       else none
                                     else none
                                   else none
                                 else none
                               else none
                             else none
                           else none
                         else none
                       else
                         some
                           (Ex.ret,
                             Sx (8 : Nat)
                               [IV.fsl nl cl (nat_lit 5) l, IV.fsl nl' cl' (nat_lit 1) gs, IV.bool true,
                                 IV.int IntKind.i64 n, IV.int IntKind.i64 i, IV.int IntKind.i64 d]
                               [])
                     else none
                   else none
                 else
                   some
                     (Ex.ret,
                       Sx (8 : Nat)
                         [IV.fsl nl cl (nat_lit 5) l, IV.fsl nl' cl' (nat_lit 1) gs, IV.bool true, IV.int IntKind.i64 n,
                           IV.int IntKind.i64 i, IV.int IntKind.i64 d]
                         [])
               else none
             else none
           else
             some
               (Ex.ret,
                 Sx (8 : Nat)
                   [IV.fsl nl cl (nat_lit 5) l, IV.fsl nl' cl' (nat_lit 1) gs, IV.bool true, IV.int IntKind.i64 n,
                     IV.int IntKind.i64 i, IV.int IntKind.i64 d]
                   [])
       else none
     else none
   else
     some
       (Ex.exit (nat_lit 0),
         Sx (8 : Nat)
           [IV.fsl nl cl (nat_lit 5) l, IV.fsl nl' cl' (nat_lit 1) gs, IV.bool false, IV.int IntKind.i64 n,
             IV.int IntKind.i64 i, IV.int IntKind.i64 d]
           [])) := by kernel_rfl
theorem al_long (cl0 gl0 co : List IV → Bool) (go : List IV → List IV) (cp gp : List IV → Bool) (ca : Nat → List IV → Nat → List IV → Bool) (ga : Int → Int → Int → List IV → Int → Int → Int → List IV → Bool) (ct : List IV → Bool) (gt : List IV → Int) (nl : Option Bool) (cl : Bool) (l : List IV) (nl' : Option Bool) (cl' : Bool) (gs : List IV) : Cb (tabA cl0 gl0 co go cp gp ca ga ct gt) (ltab [(8, 122, noL)]) 8 [.fsl nl cl 5 l, .fsl nl' cl' 1 gs] [] =
  (bif cl0 l then bif gl0 l then some (IV.bool true, []) else none else none) := by kernel_rfl
end Go.Proofs.Ytgbddcdpbgaojaa
