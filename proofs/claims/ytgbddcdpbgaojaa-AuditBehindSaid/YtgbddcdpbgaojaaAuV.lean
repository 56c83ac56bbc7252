/- AuditOnce, AuditMore, AuditAll: the laws' own rounds and calls. It bears no condition. -/
import Derived.Test.YtgbddcdpbgaojaaAuT
-- BYTES bytsV
-- SUB (b0 : Bool)  => 
-- SUB (b0 : Bool) => 
-- SUB cstF b0 (.exit 2) (onV => oneF (onV nl cl l rows i (.int .i64 0)) [] (.exit 2) (onV
-- SUB bif b0 then => bif sameS (onV nl cl l rows i (.int .i64 0)) [] then
namespace Go.Proofs.Ytgbddcdpbgaojaa
open Go Go.Im
set_option linter.unusedVariables false
set_option linter.unusedSimpArgs false
abbrev tabV (cl0 gl0 : List IV → Bool) (cm : List IV → Bool) (gm : List IV → List IV) (co : List IV → Bool) (go : List IV → List IV) (ca : Nat → List IV → Nat → List IV → Bool) (ga : Int → Int → Int → List IV → Int → Int → Int → List IV → Bool) : FuncId → Option SpecF :=
  tab [(9, lgP cl0 gl0), (10, constF (.bool true)), (11, matP cm gm), (12, owP co go), (20, alP ca ga)]
abbrev onV (nl : Option Bool) (cl : Bool) (l rows : List IV) (i : Int) (d : IV) : List IV := [.fsl nl cl 5 l, .bool false, .fsl none false 2 rows, .int .i64 i, d]
theorem on_inn (sp : FuncId → Option SpecF) (nl : Option Bool) (cl : Bool) (l rows : List IV) (i k : Int) : Rd sp 0 5 62622 (Sx 5 (onV nl cl l rows i (.int .i64 k)) []) =
  (bif decide (k < i) then
     bif decide ((2 : Nat) = (2 : Nat) ∧ (0 : Int) ≤ k ∧ k < (↑rows.length : Int)) then
       bif isOf (LT.i IntKind.i64) (nthD (List.drop (1 : Nat) (nthD rows k.toNat).cells) (0 : Nat)) then
         bif decide ((2 : Nat) = (2 : Nat) ∧ (0 : Int) ≤ i ∧ i < (↑rows.length : Int)) then
           bif isOf (LT.i IntKind.i64) (nthD (List.drop (1 : Nat) (nthD rows i.toNat).cells) (0 : Nat)) then
             bif
                 intOf (nthD (List.drop (1 : Nat) (nthD rows k.toNat).cells) (0 : Nat)) ==
                   intOf (nthD (List.drop (1 : Nat) (nthD rows i.toNat).cells) (0 : Nat)) then
               some
                 (Ex.ret,
                   Sx (5 : Nat)
                     [IV.fsl nl cl (nat_lit 5) l, IV.bool false, IV.fsl none false (nat_lit 2) rows, IV.int IntKind.i64 i,
                       IV.int IntKind.i64 k]
                     [])
             else
               some
                 (Ex.normal,
                   Sx (5 : Nat)
                     [IV.fsl nl cl (nat_lit 5) l, IV.bool false, IV.fsl none false (nat_lit 2) rows, IV.int IntKind.i64 i,
                       IV.int IntKind.i64 (IntKind.i64.wrap (k + (1 : Int)))]
                     [])
           else none
         else none
       else none
     else none
   else
     some
       (Ex.exit (nat_lit 2),
         Sx (5 : Nat)
           [IV.fsl nl cl (nat_lit 5) l, IV.bool false, IV.fsl none false (nat_lit 2) rows, IV.int IntKind.i64 i,
             IV.int IntKind.i64 k]
           [])) := by kernel_rfl
theorem on_r0 (cl0 gl0 : List IV → Bool) (cm : List IV → Bool) (gm : List IV → List IV) (co : List IV → Bool) (go : List IV → List IV) (ca : Nat → List IV → Nat → List IV → Bool) (ga : Int → Int → Int → List IV → Int → Int → Int → List IV → Bool) (nl : Option Bool) (cl : Bool) (l rows : List IV) (i : Int) : Rl (tabV cl0 gl0 cm gm co go ca ga) (ltab [(5, 62622, LF 5 0 (oneF (onV nl cl l rows i (.int .i64 0)) [] (.exit 2) (onV nl cl l rows i (.int .i64 i)) []))]) 0 5 122 (Sx 5 (onV nl cl l rows i .undef) []) =
  (bif decide (i < (↑rows.length : Int)) then
     bif decide ((2 : Nat) = (2 : Nat) ∧ (0 : Int) ≤ i ∧ i < (↑rows.length : Int)) then
       bif isOf (LT.i IntKind.i64) (nthD (List.drop (0 : Nat) (nthD rows i.toNat).cells) (0 : Nat)) then
         bif decide (intOf (nthD (List.drop (0 : Nat) (nthD rows i.toNat).cells) (0 : Nat)) < (0 : Int)) == false then
           bif decide ((2 : Nat) = (2 : Nat) ∧ (0 : Int) ≤ i ∧ i < (↑rows.length : Int)) then
             bif isOf (LT.i IntKind.i64) (nthD (List.drop (0 : Nat) (nthD rows i.toNat).cells) (0 : Nat)) then
               bif
                   (bif false then true
                     else
                       decide
                         (intOf (nthD (List.drop (0 : Nat) (nthD rows i.toNat).cells) (0 : Nat)) ≥ (↑l.length : Int))) ==
                     false then
                 bif decide ((2 : Nat) = (2 : Nat) ∧ (0 : Int) ≤ i ∧ i < (↑rows.length : Int)) then
                   bif isOf (LT.i IntKind.i64) (nthD (List.drop (1 : Nat) (nthD rows i.toNat).cells) (0 : Nat)) then
                     bif decide ((2 : Nat) = (2 : Nat) ∧ (0 : Int) ≤ i ∧ i < (↑rows.length : Int)) then
                       bif isOf (LT.i IntKind.i64) (nthD (List.drop (0 : Nat) (nthD rows i.toNat).cells) (0 : Nat)) then
                         bif
                             bif false then true
                             else
                               decide
                                 (intOf (nthD (List.drop (1 : Nat) (nthD rows i.toNat).cells) (0 : Nat)) ≥
                                   intOf (nthD (List.drop (0 : Nat) (nthD rows i.toNat).cells) (0 : Nat))) then
                           some
                             (Ex.ret,
                               Sx (5 : Nat)
                                 [IV.fsl nl cl (nat_lit 5) l, IV.bool false, IV.fsl none false (nat_lit 2) rows,
                                   IV.int IntKind.i64 i, IV.undef]
                                 [])
                         else
                           bif decide ((2 : Nat) = (2 : Nat) ∧ (0 : Int) ≤ i ∧ i < (↑rows.length : Int)) then
                             bif
                                 isOf (LT.i IntKind.i64)
                                   (nthD (List.drop (1 : Nat) (nthD rows i.toNat).cells) (0 : Nat)) then
                               bif
                                   decide
                                     (intOf (nthD (List.drop (1 : Nat) (nthD rows i.toNat).cells) (0 : Nat)) <
                                       (0 : Int)) then
                                 some
                                   (Ex.normal,
                                     Sx (5 : Nat)
                                       [IV.fsl nl cl (nat_lit 5) l, IV.bool false, IV.fsl none false (nat_lit 2) rows,
                                         IV.int IntKind.i64 (IntKind.i64.wrap (i + (1 : Int))), IV.undef]
                                       [])
                               else
                                 bif decide ((2 : Nat) = (2 : Nat) ∧ (0 : Int) ≤ i ∧ i < (↑rows.length : Int)) then
                                   bif
                                       isOf (LT.i IntKind.i64)
                                         (nthD (List.drop (1 : Nat) (nthD rows i.toNat).cells) (0 : Nat)) then
                                     bif
                                         decide
                                           ((5 : Nat) = (5 : Nat) ∧
                                             (0 : Int) ≤
                                                 intOf (nthD (List.drop (1 : Nat) (nthD rows i.toNat).cells) (0 : Nat)) ∧
                                               intOf (nthD (List.drop (1 : Nat) (nthD rows i.toNat).cells) (0 : Nat)) <
                                                 (↑l.length : Int)) then
                                       bif
                                           testAll
                                             ([LT.i IntKind.i64] ++
                                               ([LT.i IntKind.u32] ++
                                                 ([LT.i IntKind.u32] ++ ([LT.i IntKind.i64] ++ ([LT.sl] ++ [])))))
                                             (0 : Nat)
                                             (nthD l
                                                 (intOf
                                                     (nthD (List.drop (1 : Nat) (nthD rows i.toNat).cells)
                                                       (0 : Nat))).toNat).cells then
                                         bif decide ((2 : Nat) = (2 : Nat) ∧ (0 : Int) ≤ i ∧ i < (↑rows.length : Int)) then
                                           bif
                                               isOf (LT.i IntKind.i64)
                                                 (nthD (List.drop (0 : Nat) (nthD rows i.toNat).cells) (0 : Nat)) then
                                             bif
                                                 decide
                                                   ((5 : Nat) = (5 : Nat) ∧
                                                     (0 : Int) ≤
                                                         intOf
                                                           (nthD (List.drop (0 : Nat) (nthD rows i.toNat).cells)
                                                             (0 : Nat)) ∧
                                                       intOf
                                                           (nthD (List.drop (0 : Nat) (nthD rows i.toNat).cells)
                                                             (0 : Nat)) <
                                                         (↑l.length : Int)) then
                                               bif
                                                   testAll
                                                     ([LT.i IntKind.i64] ++
                                                       ([LT.i IntKind.u32] ++
                                                         ([LT.i IntKind.u32] ++ ([LT.i IntKind.i64] ++ ([LT.sl] ++ [])))))
                                                     (0 : Nat)
                                                     (nthD l
                                                         (intOf
                                                             (nthD (List.drop (0 : Nat) (nthD rows i.toNat).cells)
                                                               (0 : Nat))).toNat).cells then
                                                 bif
                                                     ca
                                                       (szOf
                                                         (nthD
                                                           (nthD l
                                                               (intOf
                                                                   (nthD (List.drop (1 : Nat) (nthD rows i.toNat).cells)
                                                                     (0 : Nat))).toNat).cells
                                                           (4 : Nat)))
                                                       (rowL
                                                         (nthD
                                                           (nthD l
                                                               (intOf
                                                                   (nthD (List.drop (1 : Nat) (nthD rows i.toNat).cells)
                                                                     (0 : Nat))).toNat).cells
                                                           (4 : Nat)))
                                                       (szOf
                                                         (nthD
                                                           (nthD l
                                                               (intOf
                                                                   (nthD (List.drop (0 : Nat) (nthD rows i.toNat).cells)
                                                                     (0 : Nat))).toNat).cells
                                                           (4 : Nat)))
                                                       (rowL
                                                         (nthD
                                                           (nthD l
                                                               (intOf
                                                                   (nthD (List.drop (0 : Nat) (nthD rows i.toNat).cells)
                                                                     (0 : Nat))).toNat).cells
                                                           (4 : Nat))) then
                                                   bif
                                                       !ga
                                                           (intOf
                                                             (nthD
                                                               (nthD l
                                                                   (intOf
                                                                       (nthD
                                                                         (List.drop (1 : Nat) (nthD rows i.toNat).cells)
                                                                         (0 : Nat))).toNat).cells
                                                               (0 : Nat)))
                                                           (intOf
                                                             (nthD
                                                               (nthD l
                                                                   (intOf
                                                                       (nthD
                                                                         (List.drop (1 : Nat) (nthD rows i.toNat).cells)
                                                                         (0 : Nat))).toNat).cells
                                                               (1 : Nat)))
                                                           (intOf
                                                             (nthD
                                                               (nthD l
                                                                   (intOf
                                                                       (nthD
                                                                         (List.drop (1 : Nat) (nthD rows i.toNat).cells)
                                                                         (0 : Nat))).toNat).cells
                                                               (2 : Nat)))
                                                           (rowL
                                                             (nthD
                                                               (nthD l
                                                                   (intOf
                                                                       (nthD
                                                                         (List.drop (1 : Nat) (nthD rows i.toNat).cells)
                                                                         (0 : Nat))).toNat).cells
                                                               (4 : Nat)))
                                                           (intOf
                                                             (nthD
                                                               (nthD l
                                                                   (intOf
                                                                       (nthD
                                                                         (List.drop (0 : Nat) (nthD rows i.toNat).cells)
                                                                         (0 : Nat))).toNat).cells
                                                               (0 : Nat)))
                                                           (intOf
                                                             (nthD
                                                               (nthD l
                                                                   (intOf
                                                                       (nthD
                                                                         (List.drop (0 : Nat) (nthD rows i.toNat).cells)
                                                                         (0 : Nat))).toNat).cells
                                                               (1 : Nat)))
                                                           (intOf
                                                             (nthD
                                                               (nthD l
                                                                   (intOf
                                                                       (nthD
                                                                         (List.drop (0 : Nat) (nthD rows i.toNat).cells)
                                                                         (0 : Nat))).toNat).cells
                                                               (2 : Nat)))
                                                           (rowL
                                                             (nthD
                                                               (nthD l
                                                                   (intOf
                                                                       (nthD
                                                                         (List.drop (0 : Nat) (nthD rows i.toNat).cells)
                                                                         (0 : Nat))).toNat).cells
                                                               (4 : Nat))) then
                                                     some
                                                       (Ex.ret,
                                                         Sx (5 : Nat)
                                                           [IV.fsl nl cl (nat_lit 5) l, IV.bool false,
                                                             IV.fsl none false (nat_lit 2) rows, IV.int IntKind.i64 i,
                                                             IV.undef]
                                                           [])
                                                   else
                                                     bif sameS (onV nl cl l rows i (.int .i64 0)) [] then
                                                       some
                                                         (Ex.normal,
                                                           Sx (5 : Nat)
                                                             [IV.fsl nl cl (nat_lit 5) l, IV.bool false,
                                                               IV.fsl none false (nat_lit 2) rows,
                                                               IV.int IntKind.i64 (IntKind.i64.wrap (i + (1 : Int))),
                                                               IV.int IntKind.i64 i]
                                                             [])
                                                     else none
                                                 else none
                                               else none
                                             else none
                                           else none
                                         else none
                                       else none
                                     else none
                                   else none
                                 else none
                             else none
                           else none
                       else none
                     else none
                   else none
                 else none
               else
                 some
                   (Ex.ret,
                     Sx (5 : Nat)
                       [IV.fsl nl cl (nat_lit 5) l, IV.bool false, IV.fsl none false (nat_lit 2) rows,
                         IV.int IntKind.i64 i, IV.undef]
                       [])
             else none
           else none
         else
           some
             (Ex.ret,
               Sx (5 : Nat)
                 [IV.fsl nl cl (nat_lit 5) l, IV.bool false, IV.fsl none false (nat_lit 2) rows, IV.int IntKind.i64 i,
                   IV.undef]
                 [])
       else none
     else none
   else
     some
       (Ex.exit (nat_lit 0),
         Sx (5 : Nat)
           [IV.fsl nl cl (nat_lit 5) l, IV.bool false, IV.fsl none false (nat_lit 2) rows, IV.int IntKind.i64 i, IV.undef]
           [])) := by kernel_rfl
theorem on_r1 (cl0 gl0 : List IV → Bool) (cm : List IV → Bool) (gm : List IV → List IV) (co : List IV → Bool) (go : List IV → List IV) (ca : Nat → List IV → Nat → List IV → Bool) (ga : Int → Int → Int → List IV → Int → Int → Int → List IV → Bool) (nl : Option Bool) (cl : Bool) (l rows : List IV) (i d : Int) : Rl (tabV cl0 gl0 cm gm co go ca ga) (ltab [(5, 62622, LF 5 0 (oneF (onV nl cl l rows i (.int .i64 0)) [] (.exit 2) (onV nl cl l rows i (.int .i64 i)) []))]) 0 5 122 (Sx 5 (onV nl cl l rows i (.int .i64 d)) []) =
  (bif decide (i < (↑rows.length : Int)) then
     bif decide ((2 : Nat) = (2 : Nat) ∧ (0 : Int) ≤ i ∧ i < (↑rows.length : Int)) then
       bif isOf (LT.i IntKind.i64) (nthD (List.drop (0 : Nat) (nthD rows i.toNat).cells) (0 : Nat)) then
         bif decide (intOf (nthD (List.drop (0 : Nat) (nthD rows i.toNat).cells) (0 : Nat)) < (0 : Int)) == false then
           bif decide ((2 : Nat) = (2 : Nat) ∧ (0 : Int) ≤ i ∧ i < (↑rows.length : Int)) then
             bif isOf (LT.i IntKind.i64) (nthD (List.drop (0 : Nat) (nthD rows i.toNat).cells) (0 : Nat)) then
               bif
                   (bif false then true
                     else
                       decide
                         (intOf (nthD (List.drop (0 : Nat) (nthD rows i.toNat).cells) (0 : Nat)) ≥ (↑l.length : Int))) ==
                     false then
                 bif decide ((2 : Nat) = (2 : Nat) ∧ (0 : Int) ≤ i ∧ i < (↑rows.length : Int)) then
                   bif isOf (LT.i IntKind.i64) (nthD (List.drop (1 : Nat) (nthD rows i.toNat).cells) (0 : Nat)) then
                     bif decide ((2 : Nat) = (2 : Nat) ∧ (0 : Int) ≤ i ∧ i < (↑rows.length : Int)) then
                       bif isOf (LT.i IntKind.i64) (nthD (List.drop (0 : Nat) (nthD rows i.toNat).cells) (0 : Nat)) then
                         bif
                             bif false then true
                             else
                               decide
                                 (intOf (nthD (List.drop (1 : Nat) (nthD rows i.toNat).cells) (0 : Nat)) ≥
                                   intOf (nthD (List.drop (0 : Nat) (nthD rows i.toNat).cells) (0 : Nat))) then
                           some
                             (Ex.ret,
                               Sx (5 : Nat)
                                 [IV.fsl nl cl (nat_lit 5) l, IV.bool false, IV.fsl none false (nat_lit 2) rows,
                                   IV.int IntKind.i64 i, IV.int IntKind.i64 d]
                                 [])
                         else
                           bif decide ((2 : Nat) = (2 : Nat) ∧ (0 : Int) ≤ i ∧ i < (↑rows.length : Int)) then
                             bif
                                 isOf (LT.i IntKind.i64)
                                   (nthD (List.drop (1 : Nat) (nthD rows i.toNat).cells) (0 : Nat)) then
                               bif
                                   decide
                                     (intOf (nthD (List.drop (1 : Nat) (nthD rows i.toNat).cells) (0 : Nat)) <
                                       (0 : Int)) then
                                 some
                                   (Ex.normal,
                                     Sx (5 : Nat)
                                       [IV.fsl nl cl (nat_lit 5) l, IV.bool false, IV.fsl none false (nat_lit 2) rows,
                                         IV.int IntKind.i64 (IntKind.i64.wrap (i + (1 : Int))), IV.int IntKind.i64 d]
                                       [])
                               else
                                 bif decide ((2 : Nat) = (2 : Nat) ∧ (0 : Int) ≤ i ∧ i < (↑rows.length : Int)) then
                                   bif
                                       isOf (LT.i IntKind.i64)
                                         (nthD (List.drop (1 : Nat) (nthD rows i.toNat).cells) (0 : Nat)) then
                                     bif
                                         decide
                                           ((5 : Nat) = (5 : Nat) ∧
                                             (0 : Int) ≤
                                                 intOf (nthD (List.drop (1 : Nat) (nthD rows i.toNat).cells) (0 : Nat)) ∧
                                               intOf (nthD (List.drop (1 : Nat) (nthD rows i.toNat).cells) (0 : Nat)) <
                                                 (↑l.length : Int)) then
                                       bif
                                           testAll
                                             ([LT.i IntKind.i64] ++
                                               ([LT.i IntKind.u32] ++
                                                 ([LT.i IntKind.u32] ++ ([LT.i IntKind.i64] ++ ([LT.sl] ++ [])))))
                                             (0 : Nat)
                                             (nthD l
                                                 (intOf
                                                     (nthD (List.drop (1 : Nat) (nthD rows i.toNat).cells)
                                                       (0 : Nat))).toNat).cells then
                                         bif decide ((2 : Nat) = (2 : Nat) ∧ (0 : Int) ≤ i ∧ i < (↑rows.length : Int)) then
                                           bif
                                               isOf (LT.i IntKind.i64)
                                                 (nthD (List.drop (0 : Nat) (nthD rows i.toNat).cells) (0 : Nat)) then
                                             bif
                                                 decide
                                                   ((5 : Nat) = (5 : Nat) ∧
                                                     (0 : Int) ≤
                                                         intOf
                                                           (nthD (List.drop (0 : Nat) (nthD rows i.toNat).cells)
                                                             (0 : Nat)) ∧
                                                       intOf
                                                           (nthD (List.drop (0 : Nat) (nthD rows i.toNat).cells)
                                                             (0 : Nat)) <
                                                         (↑l.length : Int)) then
                                               bif
                                                   testAll
                                                     ([LT.i IntKind.i64] ++
                                                       ([LT.i IntKind.u32] ++
                                                         ([LT.i IntKind.u32] ++ ([LT.i IntKind.i64] ++ ([LT.sl] ++ [])))))
                                                     (0 : Nat)
                                                     (nthD l
                                                         (intOf
                                                             (nthD (List.drop (0 : Nat) (nthD rows i.toNat).cells)
                                                               (0 : Nat))).toNat).cells then
                                                 bif
                                                     ca
                                                       (szOf
                                                         (nthD
                                                           (nthD l
                                                               (intOf
                                                                   (nthD (List.drop (1 : Nat) (nthD rows i.toNat).cells)
                                                                     (0 : Nat))).toNat).cells
                                                           (4 : Nat)))
                                                       (rowL
                                                         (nthD
                                                           (nthD l
                                                               (intOf
                                                                   (nthD (List.drop (1 : Nat) (nthD rows i.toNat).cells)
                                                                     (0 : Nat))).toNat).cells
                                                           (4 : Nat)))
                                                       (szOf
                                                         (nthD
                                                           (nthD l
                                                               (intOf
                                                                   (nthD (List.drop (0 : Nat) (nthD rows i.toNat).cells)
                                                                     (0 : Nat))).toNat).cells
                                                           (4 : Nat)))
                                                       (rowL
                                                         (nthD
                                                           (nthD l
                                                               (intOf
                                                                   (nthD (List.drop (0 : Nat) (nthD rows i.toNat).cells)
                                                                     (0 : Nat))).toNat).cells
                                                           (4 : Nat))) then
                                                   bif
                                                       !ga
                                                           (intOf
                                                             (nthD
                                                               (nthD l
                                                                   (intOf
                                                                       (nthD
                                                                         (List.drop (1 : Nat) (nthD rows i.toNat).cells)
                                                                         (0 : Nat))).toNat).cells
                                                               (0 : Nat)))
                                                           (intOf
                                                             (nthD
                                                               (nthD l
                                                                   (intOf
                                                                       (nthD
                                                                         (List.drop (1 : Nat) (nthD rows i.toNat).cells)
                                                                         (0 : Nat))).toNat).cells
                                                               (1 : Nat)))
                                                           (intOf
                                                             (nthD
                                                               (nthD l
                                                                   (intOf
                                                                       (nthD
                                                                         (List.drop (1 : Nat) (nthD rows i.toNat).cells)
                                                                         (0 : Nat))).toNat).cells
                                                               (2 : Nat)))
                                                           (rowL
                                                             (nthD
                                                               (nthD l
                                                                   (intOf
                                                                       (nthD
                                                                         (List.drop (1 : Nat) (nthD rows i.toNat).cells)
                                                                         (0 : Nat))).toNat).cells
                                                               (4 : Nat)))
                                                           (intOf
                                                             (nthD
                                                               (nthD l
                                                                   (intOf
                                                                       (nthD
                                                                         (List.drop (0 : Nat) (nthD rows i.toNat).cells)
                                                                         (0 : Nat))).toNat).cells
                                                               (0 : Nat)))
                                                           (intOf
                                                             (nthD
                                                               (nthD l
                                                                   (intOf
                                                                       (nthD
                                                                         (List.drop (0 : Nat) (nthD rows i.toNat).cells)
                                                                         (0 : Nat))).toNat).cells
                                                               (1 : Nat)))
                                                           (intOf
                                                             (nthD
                                                               (nthD l
                                                                   (intOf
                                                                       (nthD
                                                                         (List.drop (0 : Nat) (nthD rows i.toNat).cells)
                                                                         (0 : Nat))).toNat).cells
                                                               (2 : Nat)))
                                                           (rowL
                                                             (nthD
                                                               (nthD l
                                                                   (intOf
                                                                       (nthD
                                                                         (List.drop (0 : Nat) (nthD rows i.toNat).cells)
                                                                         (0 : Nat))).toNat).cells
                                                               (4 : Nat))) then
                                                     some
                                                       (Ex.ret,
                                                         Sx (5 : Nat)
                                                           [IV.fsl nl cl (nat_lit 5) l, IV.bool false,
                                                             IV.fsl none false (nat_lit 2) rows, IV.int IntKind.i64 i,
                                                             IV.int IntKind.i64 d]
                                                           [])
                                                   else
                                                     bif sameS (onV nl cl l rows i (.int .i64 0)) [] then
                                                       some
                                                         (Ex.normal,
                                                           Sx (5 : Nat)
                                                             [IV.fsl nl cl (nat_lit 5) l, IV.bool false,
                                                               IV.fsl none false (nat_lit 2) rows,
                                                               IV.int IntKind.i64 (IntKind.i64.wrap (i + (1 : Int))),
                                                               IV.int IntKind.i64 i]
                                                             [])
                                                     else none
                                                 else none
                                               else none
                                             else none
                                           else none
                                         else none
                                       else none
                                     else none
                                   else none
                                 else none
                             else none
                           else none
                       else none
                     else none
                   else none
                 else none
               else
                 some
                   (Ex.ret,
                     Sx (5 : Nat)
                       [IV.fsl nl cl (nat_lit 5) l, IV.bool false, IV.fsl none false (nat_lit 2) rows,
                         IV.int IntKind.i64 i, IV.int IntKind.i64 d]
                       [])
             else none
           else none
         else
           some
             (Ex.ret,
               Sx (5 : Nat)
                 [IV.fsl nl cl (nat_lit 5) l, IV.bool false, IV.fsl none false (nat_lit 2) rows, IV.int IntKind.i64 i,
                   IV.int IntKind.i64 d]
                 [])
       else none
     else none
   else
     some
       (Ex.exit (nat_lit 0),
         Sx (5 : Nat)
           [IV.fsl nl cl (nat_lit 5) l, IV.bool false, IV.fsl none false (nat_lit 2) rows, IV.int IntKind.i64 i,
             IV.int IntKind.i64 d]
           [])) := by kernel_rfl
theorem on_n0 (cl0 gl0 : List IV → Bool) (cm : List IV → Bool) (gm : List IV → List IV) (co : List IV → Bool) (go : List IV → List IV) (ca : Nat → List IV → Nat → List IV → Bool) (ga : Int → Int → Int → List IV → Int → Int → Int → List IV → Bool) (nl : Option Bool) (cl : Bool) (l rows : List IV) (i : Int) : Rl (tabV cl0 gl0 cm gm co go ca ga) (ltab [(5, 62622, noL)]) 0 5 122 (Sx 5 (onV nl cl l rows i .undef) []) =
  (bif decide (i < (↑rows.length : Int)) then
     bif decide ((2 : Nat) = (2 : Nat) ∧ (0 : Int) ≤ i ∧ i < (↑rows.length : Int)) then
       bif isOf (LT.i IntKind.i64) (nthD (List.drop (0 : Nat) (nthD rows i.toNat).cells) (0 : Nat)) then
         bif decide (intOf (nthD (List.drop (0 : Nat) (nthD rows i.toNat).cells) (0 : Nat)) < (0 : Int)) == false then
           bif decide ((2 : Nat) = (2 : Nat) ∧ (0 : Int) ≤ i ∧ i < (↑rows.length : Int)) then
             bif isOf (LT.i IntKind.i64) (nthD (List.drop (0 : Nat) (nthD rows i.toNat).cells) (0 : Nat)) then
               bif
                   (bif false then true
                     else
                       decide
                         (intOf (nthD (List.drop (0 : Nat) (nthD rows i.toNat).cells) (0 : Nat)) ≥ (↑l.length : Int))) ==
                     false then
                 bif decide ((2 : Nat) = (2 : Nat) ∧ (0 : Int) ≤ i ∧ i < (↑rows.length : Int)) then
                   bif isOf (LT.i IntKind.i64) (nthD (List.drop (1 : Nat) (nthD rows i.toNat).cells) (0 : Nat)) then
                     bif decide ((2 : Nat) = (2 : Nat) ∧ (0 : Int) ≤ i ∧ i < (↑rows.length : Int)) then
                       bif isOf (LT.i IntKind.i64) (nthD (List.drop (0 : Nat) (nthD rows i.toNat).cells) (0 : Nat)) then
                         bif
                             bif false then true
                             else
                               decide
                                 (intOf (nthD (List.drop (1 : Nat) (nthD rows i.toNat).cells) (0 : Nat)) ≥
                                   intOf (nthD (List.drop (0 : Nat) (nthD rows i.toNat).cells) (0 : Nat))) then
                           some
                             (Ex.ret,
                               Sx (5 : Nat)
                                 [IV.fsl nl cl (nat_lit 5) l, IV.bool false, IV.fsl none false (nat_lit 2) rows,
                                   IV.int IntKind.i64 i, IV.undef]
                                 [])
                         else
                           bif decide ((2 : Nat) = (2 : Nat) ∧ (0 : Int) ≤ i ∧ i < (↑rows.length : Int)) then
                             bif
                                 isOf (LT.i IntKind.i64)
                                   (nthD (List.drop (1 : Nat) (nthD rows i.toNat).cells) (0 : Nat)) then
                               bif
                                   decide
                                     (intOf (nthD (List.drop (1 : Nat) (nthD rows i.toNat).cells) (0 : Nat)) <
                                       (0 : Int)) then
                                 some
                                   (Ex.normal,
                                     Sx (5 : Nat)
                                       [IV.fsl nl cl (nat_lit 5) l, IV.bool false, IV.fsl none false (nat_lit 2) rows,
                                         IV.int IntKind.i64 (IntKind.i64.wrap (i + (1 : Int))), IV.undef]
                                       [])
                               else
                                 bif decide ((2 : Nat) = (2 : Nat) ∧ (0 : Int) ≤ i ∧ i < (↑rows.length : Int)) then
                                   bif
                                       isOf (LT.i IntKind.i64)
                                         (nthD (List.drop (1 : Nat) (nthD rows i.toNat).cells) (0 : Nat)) then
                                     bif
                                         decide
                                           ((5 : Nat) = (5 : Nat) ∧
                                             (0 : Int) ≤
                                                 intOf (nthD (List.drop (1 : Nat) (nthD rows i.toNat).cells) (0 : Nat)) ∧
                                               intOf (nthD (List.drop (1 : Nat) (nthD rows i.toNat).cells) (0 : Nat)) <
                                                 (↑l.length : Int)) then
                                       bif
                                           testAll
                                             ([LT.i IntKind.i64] ++
                                               ([LT.i IntKind.u32] ++
                                                 ([LT.i IntKind.u32] ++ ([LT.i IntKind.i64] ++ ([LT.sl] ++ [])))))
                                             (0 : Nat)
                                             (nthD l
                                                 (intOf
                                                     (nthD (List.drop (1 : Nat) (nthD rows i.toNat).cells)
                                                       (0 : Nat))).toNat).cells then
                                         bif decide ((2 : Nat) = (2 : Nat) ∧ (0 : Int) ≤ i ∧ i < (↑rows.length : Int)) then
                                           bif
                                               isOf (LT.i IntKind.i64)
                                                 (nthD (List.drop (0 : Nat) (nthD rows i.toNat).cells) (0 : Nat)) then
                                             bif
                                                 decide
                                                   ((5 : Nat) = (5 : Nat) ∧
                                                     (0 : Int) ≤
                                                         intOf
                                                           (nthD (List.drop (0 : Nat) (nthD rows i.toNat).cells)
                                                             (0 : Nat)) ∧
                                                       intOf
                                                           (nthD (List.drop (0 : Nat) (nthD rows i.toNat).cells)
                                                             (0 : Nat)) <
                                                         (↑l.length : Int)) then
                                               bif
                                                   testAll
                                                     ([LT.i IntKind.i64] ++
                                                       ([LT.i IntKind.u32] ++
                                                         ([LT.i IntKind.u32] ++ ([LT.i IntKind.i64] ++ ([LT.sl] ++ [])))))
                                                     (0 : Nat)
                                                     (nthD l
                                                         (intOf
                                                             (nthD (List.drop (0 : Nat) (nthD rows i.toNat).cells)
                                                               (0 : Nat))).toNat).cells then
                                                 bif
                                                     ca
                                                       (szOf
                                                         (nthD
                                                           (nthD l
                                                               (intOf
                                                                   (nthD (List.drop (1 : Nat) (nthD rows i.toNat).cells)
                                                                     (0 : Nat))).toNat).cells
                                                           (4 : Nat)))
                                                       (rowL
                                                         (nthD
                                                           (nthD l
                                                               (intOf
                                                                   (nthD (List.drop (1 : Nat) (nthD rows i.toNat).cells)
                                                                     (0 : Nat))).toNat).cells
                                                           (4 : Nat)))
                                                       (szOf
                                                         (nthD
                                                           (nthD l
                                                               (intOf
                                                                   (nthD (List.drop (0 : Nat) (nthD rows i.toNat).cells)
                                                                     (0 : Nat))).toNat).cells
                                                           (4 : Nat)))
                                                       (rowL
                                                         (nthD
                                                           (nthD l
                                                               (intOf
                                                                   (nthD (List.drop (0 : Nat) (nthD rows i.toNat).cells)
                                                                     (0 : Nat))).toNat).cells
                                                           (4 : Nat))) then
                                                   bif
                                                       !ga
                                                           (intOf
                                                             (nthD
                                                               (nthD l
                                                                   (intOf
                                                                       (nthD
                                                                         (List.drop (1 : Nat) (nthD rows i.toNat).cells)
                                                                         (0 : Nat))).toNat).cells
                                                               (0 : Nat)))
                                                           (intOf
                                                             (nthD
                                                               (nthD l
                                                                   (intOf
                                                                       (nthD
                                                                         (List.drop (1 : Nat) (nthD rows i.toNat).cells)
                                                                         (0 : Nat))).toNat).cells
                                                               (1 : Nat)))
                                                           (intOf
                                                             (nthD
                                                               (nthD l
                                                                   (intOf
                                                                       (nthD
                                                                         (List.drop (1 : Nat) (nthD rows i.toNat).cells)
                                                                         (0 : Nat))).toNat).cells
                                                               (2 : Nat)))
                                                           (rowL
                                                             (nthD
                                                               (nthD l
                                                                   (intOf
                                                                       (nthD
                                                                         (List.drop (1 : Nat) (nthD rows i.toNat).cells)
                                                                         (0 : Nat))).toNat).cells
                                                               (4 : Nat)))
                                                           (intOf
                                                             (nthD
                                                               (nthD l
                                                                   (intOf
                                                                       (nthD
                                                                         (List.drop (0 : Nat) (nthD rows i.toNat).cells)
                                                                         (0 : Nat))).toNat).cells
                                                               (0 : Nat)))
                                                           (intOf
                                                             (nthD
                                                               (nthD l
                                                                   (intOf
                                                                       (nthD
                                                                         (List.drop (0 : Nat) (nthD rows i.toNat).cells)
                                                                         (0 : Nat))).toNat).cells
                                                               (1 : Nat)))
                                                           (intOf
                                                             (nthD
                                                               (nthD l
                                                                   (intOf
                                                                       (nthD
                                                                         (List.drop (0 : Nat) (nthD rows i.toNat).cells)
                                                                         (0 : Nat))).toNat).cells
                                                               (2 : Nat)))
                                                           (rowL
                                                             (nthD
                                                               (nthD l
                                                                   (intOf
                                                                       (nthD
                                                                         (List.drop (0 : Nat) (nthD rows i.toNat).cells)
                                                                         (0 : Nat))).toNat).cells
                                                               (4 : Nat))) then
                                                     some
                                                       (Ex.ret,
                                                         Sx (5 : Nat)
                                                           [IV.fsl nl cl (nat_lit 5) l, IV.bool false,
                                                             IV.fsl none false (nat_lit 2) rows, IV.int IntKind.i64 i,
                                                             IV.undef]
                                                           [])
                                                   else none
                                                 else none
                                               else none
                                             else none
                                           else none
                                         else none
                                       else none
                                     else none
                                   else none
                                 else none
                             else none
                           else none
                       else none
                     else none
                   else none
                 else none
               else
                 some
                   (Ex.ret,
                     Sx (5 : Nat)
                       [IV.fsl nl cl (nat_lit 5) l, IV.bool false, IV.fsl none false (nat_lit 2) rows,
                         IV.int IntKind.i64 i, IV.undef]
                       [])
             else none
           else none
         else
           some
             (Ex.ret,
               Sx (5 : Nat)
                 [IV.fsl nl cl (nat_lit 5) l, IV.bool false, IV.fsl none false (nat_lit 2) rows, IV.int IntKind.i64 i,
                   IV.undef]
                 [])
       else none
     else none
   else
     some
       (Ex.exit (nat_lit 0),
         Sx (5 : Nat)
           [IV.fsl nl cl (nat_lit 5) l, IV.bool false, IV.fsl none false (nat_lit 2) rows, IV.int IntKind.i64 i, IV.undef]
           [])) := by kernel_rfl
theorem on_n1 (cl0 gl0 : List IV → Bool) (cm : List IV → Bool) (gm : List IV → List IV) (co : List IV → Bool) (go : List IV → List IV) (ca : Nat → List IV → Nat → List IV → Bool) (ga : Int → Int → Int → List IV → Int → Int → Int → List IV → Bool) (nl : Option Bool) (cl : Bool) (l rows : List IV) (i d : Int) : Rl (tabV cl0 gl0 cm gm co go ca ga) (ltab [(5, 62622, noL)]) 0 5 122 (Sx 5 (onV nl cl l rows i (.int .i64 d)) []) =
  (bif decide (i < (↑rows.length : Int)) then
     bif decide ((2 : Nat) = (2 : Nat) ∧ (0 : Int) ≤ i ∧ i < (↑rows.length : Int)) then
       bif isOf (LT.i IntKind.i64) (nthD (List.drop (0 : Nat) (nthD rows i.toNat).cells) (0 : Nat)) then
         bif decide (intOf (nthD (List.drop (0 : Nat) (nthD rows i.toNat).cells) (0 : Nat)) < (0 : Int)) == false then
           bif decide ((2 : Nat) = (2 : Nat) ∧ (0 : Int) ≤ i ∧ i < (↑rows.length : Int)) then
             bif isOf (LT.i IntKind.i64) (nthD (List.drop (0 : Nat) (nthD rows i.toNat).cells) (0 : Nat)) then
               bif
                   (bif false then true
                     else
                       decide
                         (intOf (nthD (List.drop (0 : Nat) (nthD rows i.toNat).cells) (0 : Nat)) ≥ (↑l.length : Int))) ==
                     false then
                 bif decide ((2 : Nat) = (2 : Nat) ∧ (0 : Int) ≤ i ∧ i < (↑rows.length : Int)) then
                   bif isOf (LT.i IntKind.i64) (nthD (List.drop (1 : Nat) (nthD rows i.toNat).cells) (0 : Nat)) then
                     bif decide ((2 : Nat) = (2 : Nat) ∧ (0 : Int) ≤ i ∧ i < (↑rows.length : Int)) then
                       bif isOf (LT.i IntKind.i64) (nthD (List.drop (0 : Nat) (nthD rows i.toNat).cells) (0 : Nat)) then
                         bif
                             bif false then true
                             else
                               decide
                                 (intOf (nthD (List.drop (1 : Nat) (nthD rows i.toNat).cells) (0 : Nat)) ≥
                                   intOf (nthD (List.drop (0 : Nat) (nthD rows i.toNat).cells) (0 : Nat))) then
                           some
                             (Ex.ret,
                               Sx (5 : Nat)
                                 [IV.fsl nl cl (nat_lit 5) l, IV.bool false, IV.fsl none false (nat_lit 2) rows,
                                   IV.int IntKind.i64 i, IV.int IntKind.i64 d]
                                 [])
                         else
                           bif decide ((2 : Nat) = (2 : Nat) ∧ (0 : Int) ≤ i ∧ i < (↑rows.length : Int)) then
                             bif
                                 isOf (LT.i IntKind.i64)
                                   (nthD (List.drop (1 : Nat) (nthD rows i.toNat).cells) (0 : Nat)) then
                               bif
                                   decide
                                     (intOf (nthD (List.drop (1 : Nat) (nthD rows i.toNat).cells) (0 : Nat)) <
                                       (0 : Int)) then
                                 some
                                   (Ex.normal,
                                     Sx (5 : Nat)
                                       [IV.fsl nl cl (nat_lit 5) l, IV.bool false, IV.fsl none false (nat_lit 2) rows,
                                         IV.int IntKind.i64 (IntKind.i64.wrap (i + (1 : Int))), IV.int IntKind.i64 d]
                                       [])
                               else
                                 bif decide ((2 : Nat) = (2 : Nat) ∧ (0 : Int) ≤ i ∧ i < (↑rows.length : Int)) then
                                   bif
                                       isOf (LT.i IntKind.i64)
                                         (nthD (List.drop (1 : Nat) (nthD rows i.toNat).cells) (0 : Nat)) then
                                     bif
                                         decide
                                           ((5 : Nat) = (5 : Nat) ∧
                                             (0 : Int) ≤
                                                 intOf (nthD (List.drop (1 : Nat) (nthD rows i.toNat).cells) (0 : Nat)) ∧
                                               intOf (nthD (List.drop (1 : Nat) (nthD rows i.toNat).cells) (0 : Nat)) <
                                                 (↑l.length : Int)) then
                                       bif
                                           testAll
                                             ([LT.i IntKind.i64] ++
                                               ([LT.i IntKind.u32] ++
                                                 ([LT.i IntKind.u32] ++ ([LT.i IntKind.i64] ++ ([LT.sl] ++ [])))))
                                             (0 : Nat)
                                             (nthD l
                                                 (intOf
                                                     (nthD (List.drop (1 : Nat) (nthD rows i.toNat).cells)
                                                       (0 : Nat))).toNat).cells then
                                         bif decide ((2 : Nat) = (2 : Nat) ∧ (0 : Int) ≤ i ∧ i < (↑rows.length : Int)) then
                                           bif
                                               isOf (LT.i IntKind.i64)
                                                 (nthD (List.drop (0 : Nat) (nthD rows i.toNat).cells) (0 : Nat)) then
                                             bif
                                                 decide
                                                   ((5 : Nat) = (5 : Nat) ∧
                                                     (0 : Int) ≤
                                                         intOf
                                                           (nthD (List.drop (0 : Nat) (nthD rows i.toNat).cells)
                                                             (0 : Nat)) ∧
                                                       intOf
                                                           (nthD (List.drop (0 : Nat) (nthD rows i.toNat).cells)
                                                             (0 : Nat)) <
                                                         (↑l.length : Int)) then
                                               bif
                                                   testAll
                                                     ([LT.i IntKind.i64] ++
                                                       ([LT.i IntKind.u32] ++
                                                         ([LT.i IntKind.u32] ++ ([LT.i IntKind.i64] ++ ([LT.sl] ++ [])))))
                                                     (0 : Nat)
                                                     (nthD l
                                                         (intOf
                                                             (nthD (List.drop (0 : Nat) (nthD rows i.toNat).cells)
                                                               (0 : Nat))).toNat).cells then
                                                 bif
                                                     ca
                                                       (szOf
                                                         (nthD
                                                           (nthD l
                                                               (intOf
                                                                   (nthD (List.drop (1 : Nat) (nthD rows i.toNat).cells)
                                                                     (0 : Nat))).toNat).cells
                                                           (4 : Nat)))
                                                       (rowL
                                                         (nthD
                                                           (nthD l
                                                               (intOf
                                                                   (nthD (List.drop (1 : Nat) (nthD rows i.toNat).cells)
                                                                     (0 : Nat))).toNat).cells
                                                           (4 : Nat)))
                                                       (szOf
                                                         (nthD
                                                           (nthD l
                                                               (intOf
                                                                   (nthD (List.drop (0 : Nat) (nthD rows i.toNat).cells)
                                                                     (0 : Nat))).toNat).cells
                                                           (4 : Nat)))
                                                       (rowL
                                                         (nthD
                                                           (nthD l
                                                               (intOf
                                                                   (nthD (List.drop (0 : Nat) (nthD rows i.toNat).cells)
                                                                     (0 : Nat))).toNat).cells
                                                           (4 : Nat))) then
                                                   bif
                                                       !ga
                                                           (intOf
                                                             (nthD
                                                               (nthD l
                                                                   (intOf
                                                                       (nthD
                                                                         (List.drop (1 : Nat) (nthD rows i.toNat).cells)
                                                                         (0 : Nat))).toNat).cells
                                                               (0 : Nat)))
                                                           (intOf
                                                             (nthD
                                                               (nthD l
                                                                   (intOf
                                                                       (nthD
                                                                         (List.drop (1 : Nat) (nthD rows i.toNat).cells)
                                                                         (0 : Nat))).toNat).cells
                                                               (1 : Nat)))
                                                           (intOf
                                                             (nthD
                                                               (nthD l
                                                                   (intOf
                                                                       (nthD
                                                                         (List.drop (1 : Nat) (nthD rows i.toNat).cells)
                                                                         (0 : Nat))).toNat).cells
                                                               (2 : Nat)))
                                                           (rowL
                                                             (nthD
                                                               (nthD l
                                                                   (intOf
                                                                       (nthD
                                                                         (List.drop (1 : Nat) (nthD rows i.toNat).cells)
                                                                         (0 : Nat))).toNat).cells
                                                               (4 : Nat)))
                                                           (intOf
                                                             (nthD
                                                               (nthD l
                                                                   (intOf
                                                                       (nthD
                                                                         (List.drop (0 : Nat) (nthD rows i.toNat).cells)
                                                                         (0 : Nat))).toNat).cells
                                                               (0 : Nat)))
                                                           (intOf
                                                             (nthD
                                                               (nthD l
                                                                   (intOf
                                                                       (nthD
                                                                         (List.drop (0 : Nat) (nthD rows i.toNat).cells)
                                                                         (0 : Nat))).toNat).cells
                                                               (1 : Nat)))
                                                           (intOf
                                                             (nthD
                                                               (nthD l
                                                                   (intOf
                                                                       (nthD
                                                                         (List.drop (0 : Nat) (nthD rows i.toNat).cells)
                                                                         (0 : Nat))).toNat).cells
                                                               (2 : Nat)))
                                                           (rowL
                                                             (nthD
                                                               (nthD l
                                                                   (intOf
                                                                       (nthD
                                                                         (List.drop (0 : Nat) (nthD rows i.toNat).cells)
                                                                         (0 : Nat))).toNat).cells
                                                               (4 : Nat))) then
                                                     some
                                                       (Ex.ret,
                                                         Sx (5 : Nat)
                                                           [IV.fsl nl cl (nat_lit 5) l, IV.bool false,
                                                             IV.fsl none false (nat_lit 2) rows, IV.int IntKind.i64 i,
                                                             IV.int IntKind.i64 d]
                                                           [])
                                                   else none
                                                 else none
                                               else none
                                             else none
                                           else none
                                         else none
                                       else none
                                     else none
                                   else none
                                 else none
                             else none
                           else none
                       else none
                     else none
                   else none
                 else none
               else
                 some
                   (Ex.ret,
                     Sx (5 : Nat)
                       [IV.fsl nl cl (nat_lit 5) l, IV.bool false, IV.fsl none false (nat_lit 2) rows,
                         IV.int IntKind.i64 i, IV.int IntKind.i64 d]
                       [])
             else none
           else none
         else
           some
             (Ex.ret,
               Sx (5 : Nat)
                 [IV.fsl nl cl (nat_lit 5) l, IV.bool false, IV.fsl none false (nat_lit 2) rows, IV.int IntKind.i64 i,
                   IV.int IntKind.i64 d]
                 [])
       else none
     else none
   else
     some
       (Ex.exit (nat_lit 0),
         Sx (5 : Nat)
           [IV.fsl nl cl (nat_lit 5) l, IV.bool false, IV.fsl none false (nat_lit 2) rows, IV.int IntKind.i64 i,
             IV.int IntKind.i64 d]
           [])) := by kernel_rfl
theorem on_long (cl0 gl0 : List IV → Bool) (cm : List IV → Bool) (gm : List IV → List IV) (co : List IV → Bool) (go : List IV → List IV) (ca : Nat → List IV → Nat → List IV → Bool) (ga : Int → Int → Int → List IV → Int → Int → Int → List IV → Bool) (nl : Option Bool) (cl : Bool) (l : List IV) : Cb (tabV cl0 gl0 cm gm co go ca ga) (ltab [(5, 122, noL)]) 5 [.fsl nl cl 5 l] [] =
  (bif cl0 l then bif gl0 l then some (IV.bool true, []) else bif co l then bif cm (go l) then none else none else none
   else none) := by kernel_rfl
theorem on_call0 (cl0 gl0 : List IV → Bool) (cm : List IV → Bool) (gm : List IV → List IV) (co : List IV → Bool) (go : List IV → List IV) (ca : Nat → List IV → Nat → List IV → Bool) (ga : Int → Int → Int → List IV → Int → Int → Int → List IV → Bool) (nl : Option Bool) (cl : Bool) (l : List IV) (i : Int) : Cb (tabV cl0 gl0 cm gm co go ca ga) (ltab [(5, 122, LF 5 0 (oneF (onV nl cl l (gm (go l)) 0 .undef) [] (.exit 0) (onV nl cl l (gm (go l)) i .undef) []))]) 5 [.fsl nl cl 5 l] [] =
    bif cl0 l then bif gl0 l then some (.bool true, []) else bif co l then bif cm (go l) then bif sameS (onV nl cl l (gm (go l)) 0 .undef) [] then some (.bool true, []) else none else none else none else none := by kernel_rfl
theorem on_call1 (cl0 gl0 : List IV → Bool) (cm : List IV → Bool) (gm : List IV → List IV) (co : List IV → Bool) (go : List IV → List IV) (ca : Nat → List IV → Nat → List IV → Bool) (ga : Int → Int → Int → List IV → Int → Int → Int → List IV → Bool) (nl : Option Bool) (cl : Bool) (l : List IV) (i d : Int) : Cb (tabV cl0 gl0 cm gm co go ca ga) (ltab [(5, 122, LF 5 0 (oneF (onV nl cl l (gm (go l)) 0 .undef) [] (.exit 0) (onV nl cl l (gm (go l)) i (.int .i64 d)) []))]) 5 [.fsl nl cl 5 l] [] =
    bif cl0 l then bif gl0 l then some (.bool true, []) else bif co l then bif cm (go l) then bif sameS (onV nl cl l (gm (go l)) 0 .undef) [] then some (.bool true, []) else none else none else none else none := by kernel_rfl
/-! ### AuditMore -/
abbrev tabW (cl0 gl0 : List IV → Bool) (ct : List IV → Bool) (gt : List IV → Int) : FuncId → Option SpecF := tab [(9, lgP cl0 gl0), (10, constF (.bool true)), (21, mtP ct gt)]
theorem mo_tree (cl0 gl0 : List IV → Bool) (ct : List IV → Bool) (gt : List IV → Int) (nl nl' : Option Bool) (cl cl' : Bool) (l b : List IV) (k h p a : Int) : C (tabW cl0 gl0 ct gt) 7 [.fsl nl cl 5 l, .agg [.int .i64 k, .int .u32 h, .int .u32 p, .int .i64 a, .fsl nl' cl' 1 b]] =
  (bif cl0 l then
     bif bif gl0 l then true else decide ((↑b.length : Int) > (1000 : Int)) then some (IV.bool true, [])
     else
       bif
           decide
             ((([] ++
                         [IV.agg
                             [IV.int IntKind.i64 (1 : Int), IV.int IntKind.u32 h, IV.int IntKind.u32 p,
                               IV.int IntKind.i64 a, IV.fsl nl' cl' (1 : Nat) b]]).length +
                     l.length) *
                   (48 : Nat) ≤
                 roomB ∧
               ([] ++
                       [IV.agg
                           [IV.int IntKind.i64 (1 : Int), IV.int IntKind.u32 h, IV.int IntKind.u32 p, IV.int IntKind.i64 a,
                             IV.fsl nl' cl' (1 : Nat) b]]).length +
                   l.length ≤
                 maxLen) then
         bif ct l then
           bif
               ct
                 ([] ++
                     [IV.agg
                         [IV.int IntKind.i64 (1 : Int), IV.int IntKind.u32 h, IV.int IntKind.u32 p, IV.int IntKind.i64 a,
                           IV.fsl nl' cl' (1 : Nat) b]] ++
                   l) then
             some
               (IV.bool
                   (bif
                       bif true then
                         decide
                           (gt l ≤
                             gt
                               ([] ++
                                   [IV.agg
                                       [IV.int IntKind.i64 (1 : Int), IV.int IntKind.u32 h, IV.int IntKind.u32 p,
                                         IV.int IntKind.i64 a, IV.fsl nl' cl' (1 : Nat) b]] ++
                                 l))
                       else false then
                     decide
                       (gt
                           ([] ++
                               [IV.agg
                                   [IV.int IntKind.i64 (1 : Int), IV.int IntKind.u32 h, IV.int IntKind.u32 p,
                                     IV.int IntKind.i64 a, IV.fsl nl' cl' (1 : Nat) b]] ++
                             l) ≤
                         IntKind.i64.wrap (gt l + (1 : Int)))
                   else false),
                 [])
           else none
         else none
       else none
   else none) := by kernel_rfl
end Go.Proofs.Ytgbddcdpbgaojaa
