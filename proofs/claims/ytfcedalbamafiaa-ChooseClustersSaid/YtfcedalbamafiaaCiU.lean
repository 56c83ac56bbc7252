/- The document's Cluster: rounds and calls: what the given program does. It bears no condition. -/
import Derived.Test.YtfcedalbamafiaaCiT
-- BYTES bytsU
-- SUB (b1 : Bool) => 
-- SUB cstF b1 => oneF (rkV nl cl xs nl' cl' ys 0 0 0) []
-- SUB bif b1 => bif sameS (rkV nl cl xs nl' cl' ys 0 0 0) []
-- SUB (b0 : Bool)  => 
-- SUB cstF b0 => oneF (rlV nl cl xs nl' cl' ys least n (.int .i64 0) (.int .i64 (nearX ys l)) (.int .i64 1)) [.row 0 false 1 l]
-- SUB bif b0 => bif sameS (rlV nl cl xs nl' cl' ys least n (.int .i64 0) (.int .i64 (nearX ys l)) (.int .i64 1)) [.row 0 false 1 l]
namespace Go.Proofs.Ytfcedalbamafiaa
open Go Go.Im
set_option linter.unusedVariables false
set_option linter.unusedSimpArgs false
abbrev rlV (nl : Option Bool) (cl : Bool) (xs : List IV) (nl' : Option Bool) (cl' : Bool) (ys : List IV) (least n : Int) (a b c : IV) : List IV := [.fsl nl cl 1 xs, .fsl nl' cl' 1 ys, .int .i64 least, .fsl (some true) true 0 [], .int .i64 0, .osl 0 0, .int .i64 n, a, b, c]
abbrev rlW (nl : Option Bool) (cl : Bool) (xs : List IV) (nl' : Option Bool) (cl' : Bool) (ys : List IV) (least n a b c : Int) : List IV := [.fsl nl cl 1 xs, .fsl nl' cl' 1 ys, .int .i64 least, .osl 0 0, .int .i64 0, .osl 0 0, .int .i64 n, .int .i64 a, .int .i64 b, .int .i64 c]
abbrev nearX (ys l : List IV) : Int := Im.intOf (nthD (nthD ys (Im.intOf (nthD (List.drop (0 : Nat) (nthD l (0 : Nat)).cells) (0 : Nat))).toNat).cells (0 : Nat))
abbrev tabU (cf : Nat → List IV → Nat → List IV → Bool) (gf : List IV → List IV → Bool) (c : List IV → List IV → Int → Bool) (w : List IV → List IV → Int → Int) : FuncId → Option SpecF := tab [(14, fitQ cf gf), (32, stP c w)]
theorem rl_fl (sp : FuncId → Option SpecF) (nl : Option Bool) (cl : Bool) (xs : List IV) (nl' : Option Bool) (cl' : Bool) (ys l : List IV) (least n : Int) : Rd sp 21 122 (Sx 21 (rlV nl cl xs nl' cl' ys least n .undef .undef .undef) [.row 0 false 1 l]) =
  (bif decide (n < (↑xs.length : Int)) then
     bif
         decide
           ((l.length + [IV.int IntKind.i64 n].length) * (8 : Nat) ≤ roomB ∧
             l.length + [IV.int IntKind.i64 n].length ≤ maxLen) then
       some
         (Ex.normal,
           Sx (21 : Nat)
             [IV.fsl nl cl (nat_lit 1) xs, IV.fsl nl' cl' (nat_lit 1) ys, IV.int IntKind.i64 least,
               IV.fsl (some true) true (nat_lit 0) [], IV.int IntKind.i64 (0 : Int), IV.osl (nat_lit 0) (nat_lit 0),
               IV.int IntKind.i64 (IntKind.i64.wrap (n + (1 : Int))), IV.undef, IV.undef, IV.undef]
             [Blk.row (nat_lit 0) false (nat_lit 1) (l ++ [IV.int IntKind.i64 n])])
     else none
   else
     some
       (Ex.exit (nat_lit 0),
         Sx (21 : Nat)
           [IV.fsl nl cl (nat_lit 1) xs, IV.fsl nl' cl' (nat_lit 1) ys, IV.int IntKind.i64 least,
             IV.fsl (some true) true (nat_lit 0) [], IV.int IntKind.i64 (0 : Int), IV.osl (nat_lit 0) (nat_lit 0),
             IV.int IntKind.i64 n, IV.undef, IV.undef, IV.undef]
           [Blk.row (nat_lit 0) false (nat_lit 1) l])) := by kernel_rfl
theorem rl_in (cf : Nat → List IV → Nat → List IV → Bool) (gf : List IV → List IV → Bool) (c : List IV → List IV → Int → Bool) (w : List IV → List IV → Int → Int) (nl : Option Bool) (cl : Bool) (xs : List IV) (nl' : Option Bool) (cl' : Bool) (ys l : List IV) (least n a b i : Int) : Rd (tabU cf gf c w) 21 15914 (Sx 21 (rlV nl cl xs nl' cl' ys least n (.int .i64 a) (.int .i64 b) (.int .i64 i)) [.row 0 false 1 l]) =
  (bif decide (i < (↑l.length : Int)) then
     bif c xs l i then
       bif c xs l a then
         bif decide (w xs l i ≥ w xs l a) then
           bif decide ((0 : Int) ≤ i ∧ i < (↑l.length : Int)) then
             bif decide (i.toNat < l.length) then
               bif isOf (LT.i IntKind.i64) (nthD (List.drop (0 : Nat) (nthD l i.toNat).cells) (0 : Nat)) then
                 bif
                     decide
                       ((1 : Nat) = (1 : Nat) ∧
                         (0 : Int) ≤ Im.intOf (nthD (List.drop (0 : Nat) (nthD l i.toNat).cells) (0 : Nat)) ∧
                           Im.intOf (nthD (List.drop (0 : Nat) (nthD l i.toNat).cells) (0 : Nat)) <
                             (↑ys.length : Int)) then
                   bif
                       isOf (LT.i IntKind.i64)
                         (nthD
                           (nthD ys (Im.intOf (nthD (List.drop (0 : Nat) (nthD l i.toNat).cells) (0 : Nat))).toNat).cells
                           (0 : Nat)) then
                     bif
                         decide
                           (Im.intOf
                               (nthD
                                 (nthD ys
                                     (Im.intOf (nthD (List.drop (0 : Nat) (nthD l i.toNat).cells) (0 : Nat))).toNat).cells
                                 (0 : Nat)) <
                             b) then
                       bif decide ((0 : Int) ≤ i ∧ i < (↑l.length : Int)) then
                         bif decide (i.toNat < l.length) then
                           bif isOf (LT.i IntKind.i64) (nthD (List.drop (0 : Nat) (nthD l i.toNat).cells) (0 : Nat)) then
                             bif
                                 decide
                                   ((1 : Nat) = (1 : Nat) ∧
                                     (0 : Int) ≤ Im.intOf (nthD (List.drop (0 : Nat) (nthD l i.toNat).cells) (0 : Nat)) ∧
                                       Im.intOf (nthD (List.drop (0 : Nat) (nthD l i.toNat).cells) (0 : Nat)) <
                                         (↑ys.length : Int)) then
                               bif
                                   isOf (LT.i IntKind.i64)
                                     (nthD
                                       (nthD ys
                                           (Im.intOf
                                               (nthD (List.drop (0 : Nat) (nthD l i.toNat).cells) (0 : Nat))).toNat).cells
                                       (0 : Nat)) then
                                 some
                                   (Ex.normal,
                                     Sx (21 : Nat)
                                       [IV.fsl nl cl (nat_lit 1) xs, IV.fsl nl' cl' (nat_lit 1) ys,
                                         IV.int IntKind.i64 least, IV.fsl (some true) true (nat_lit 0) [],
                                         IV.int IntKind.i64 (0 : Int), IV.osl (nat_lit 0) (nat_lit 0),
                                         IV.int IntKind.i64 n, IV.int IntKind.i64 i,
                                         IV.int IntKind.i64
                                           (Im.intOf
                                             (nthD
                                               (nthD ys
                                                   (Im.intOf
                                                       (nthD (List.drop (0 : Nat) (nthD l i.toNat).cells)
                                                         (0 : Nat))).toNat).cells
                                               (0 : Nat))),
                                         IV.int IntKind.i64 (IntKind.i64.wrap (i + (1 : Int)))]
                                       [Blk.row (nat_lit 0) false (nat_lit 1) l])
                               else none
                             else none
                           else none
                         else none
                       else none
                     else
                       some
                         (Ex.normal,
                           Sx (21 : Nat)
                             [IV.fsl nl cl (nat_lit 1) xs, IV.fsl nl' cl' (nat_lit 1) ys, IV.int IntKind.i64 least,
                               IV.fsl (some true) true (nat_lit 0) [], IV.int IntKind.i64 (0 : Int),
                               IV.osl (nat_lit 0) (nat_lit 0), IV.int IntKind.i64 n, IV.int IntKind.i64 i,
                               IV.int IntKind.i64 b, IV.int IntKind.i64 (IntKind.i64.wrap (i + (1 : Int)))]
                             [Blk.row (nat_lit 0) false (nat_lit 1) l])
                   else none
                 else none
               else none
             else none
           else none
         else
           bif decide ((0 : Int) ≤ i ∧ i < (↑l.length : Int)) then
             bif decide (i.toNat < l.length) then
               bif isOf (LT.i IntKind.i64) (nthD (List.drop (0 : Nat) (nthD l i.toNat).cells) (0 : Nat)) then
                 bif
                     decide
                       ((1 : Nat) = (1 : Nat) ∧
                         (0 : Int) ≤ Im.intOf (nthD (List.drop (0 : Nat) (nthD l i.toNat).cells) (0 : Nat)) ∧
                           Im.intOf (nthD (List.drop (0 : Nat) (nthD l i.toNat).cells) (0 : Nat)) <
                             (↑ys.length : Int)) then
                   bif
                       isOf (LT.i IntKind.i64)
                         (nthD
                           (nthD ys (Im.intOf (nthD (List.drop (0 : Nat) (nthD l i.toNat).cells) (0 : Nat))).toNat).cells
                           (0 : Nat)) then
                     bif
                         decide
                           (Im.intOf
                               (nthD
                                 (nthD ys
                                     (Im.intOf (nthD (List.drop (0 : Nat) (nthD l i.toNat).cells) (0 : Nat))).toNat).cells
                                 (0 : Nat)) <
                             b) then
                       bif decide ((0 : Int) ≤ i ∧ i < (↑l.length : Int)) then
                         bif decide (i.toNat < l.length) then
                           bif isOf (LT.i IntKind.i64) (nthD (List.drop (0 : Nat) (nthD l i.toNat).cells) (0 : Nat)) then
                             bif
                                 decide
                                   ((1 : Nat) = (1 : Nat) ∧
                                     (0 : Int) ≤ Im.intOf (nthD (List.drop (0 : Nat) (nthD l i.toNat).cells) (0 : Nat)) ∧
                                       Im.intOf (nthD (List.drop (0 : Nat) (nthD l i.toNat).cells) (0 : Nat)) <
                                         (↑ys.length : Int)) then
                               bif
                                   isOf (LT.i IntKind.i64)
                                     (nthD
                                       (nthD ys
                                           (Im.intOf
                                               (nthD (List.drop (0 : Nat) (nthD l i.toNat).cells) (0 : Nat))).toNat).cells
                                       (0 : Nat)) then
                                 some
                                   (Ex.normal,
                                     Sx (21 : Nat)
                                       [IV.fsl nl cl (nat_lit 1) xs, IV.fsl nl' cl' (nat_lit 1) ys,
                                         IV.int IntKind.i64 least, IV.fsl (some true) true (nat_lit 0) [],
                                         IV.int IntKind.i64 (0 : Int), IV.osl (nat_lit 0) (nat_lit 0),
                                         IV.int IntKind.i64 n, IV.int IntKind.i64 a,
                                         IV.int IntKind.i64
                                           (Im.intOf
                                             (nthD
                                               (nthD ys
                                                   (Im.intOf
                                                       (nthD (List.drop (0 : Nat) (nthD l i.toNat).cells)
                                                         (0 : Nat))).toNat).cells
                                               (0 : Nat))),
                                         IV.int IntKind.i64 (IntKind.i64.wrap (i + (1 : Int)))]
                                       [Blk.row (nat_lit 0) false (nat_lit 1) l])
                               else none
                             else none
                           else none
                         else none
                       else none
                     else
                       some
                         (Ex.normal,
                           Sx (21 : Nat)
                             [IV.fsl nl cl (nat_lit 1) xs, IV.fsl nl' cl' (nat_lit 1) ys, IV.int IntKind.i64 least,
                               IV.fsl (some true) true (nat_lit 0) [], IV.int IntKind.i64 (0 : Int),
                               IV.osl (nat_lit 0) (nat_lit 0), IV.int IntKind.i64 n, IV.int IntKind.i64 a,
                               IV.int IntKind.i64 b, IV.int IntKind.i64 (IntKind.i64.wrap (i + (1 : Int)))]
                             [Blk.row (nat_lit 0) false (nat_lit 1) l])
                   else none
                 else none
               else none
             else none
           else none
       else none
     else none
   else
     some
       (Ex.exit (nat_lit 4),
         Sx (21 : Nat)
           [IV.fsl nl cl (nat_lit 1) xs, IV.fsl nl' cl' (nat_lit 1) ys, IV.int IntKind.i64 least,
             IV.fsl (some true) true (nat_lit 0) [], IV.int IntKind.i64 (0 : Int), IV.osl (nat_lit 0) (nat_lit 0),
             IV.int IntKind.i64 n, IV.int IntKind.i64 a, IV.int IntKind.i64 b, IV.int IntKind.i64 i]
           [Blk.row (nat_lit 0) false (nat_lit 1) l])) := by kernel_rfl
theorem rl_r0 (nl : Option Bool) (cl : Bool) (xs : List IV) (nl' : Option Bool) (cl' : Bool) (ys l : List IV) (least n a near i : Int) (cf : Nat → List IV → Nat → List IV → Bool) (gf : List IV → List IV → Bool) (c : List IV → List IV → Int → Bool) (w : List IV → List IV → Int → Int) : Rl (tabU cf gf c w) (ltab [(21, 15914, LF 21 0 (oneF (rlV nl cl xs nl' cl' ys least n (.int .i64 0) (.int .i64 (nearX ys l)) (.int .i64 1)) [.row 0 false 1 l] (.exit 4) (rlV nl cl xs nl' cl' ys least n (.int .i64 a) (.int .i64 near) (.int .i64 i)) [.row 0 false 1 l]))]) 0 21 124 (Sx 21 (rlV nl cl xs nl' cl' ys least n .undef .undef .undef) [.row 0 false 1 l]) =
  (bif decide ((↑l.length : Int) > least) then
     bif decide ((0 : Int) ≤ (0 : Int) ∧ (0 : Int) < (↑l.length : Int)) then
       bif decide ((0 : Nat) < l.length) then
         bif isOf (LT.i IntKind.i64) (nthD (List.drop (0 : Nat) (nthD l (0 : Nat)).cells) (0 : Nat)) then
           bif
               decide
                 ((1 : Nat) = (1 : Nat) ∧
                   (0 : Int) ≤ Im.intOf (nthD (List.drop (0 : Nat) (nthD l (0 : Nat)).cells) (0 : Nat)) ∧
                     Im.intOf (nthD (List.drop (0 : Nat) (nthD l (0 : Nat)).cells) (0 : Nat)) < (↑ys.length : Int)) then
             bif
                 isOf (LT.i IntKind.i64)
                   (nthD (nthD ys (Im.intOf (nthD (List.drop (0 : Nat) (nthD l (0 : Nat)).cells) (0 : Nat))).toNat).cells
                     (0 : Nat)) then
               bif sameS (rlV nl cl xs nl' cl' ys least n (.int .i64 0) (.int .i64 (nearX ys l)) (.int .i64 1)) [.row 0 false 1 l] then
                 bif c xs l a then
                   bif decide (w xs l a ≤ IntKind.i64.wrap (near * IntKind.i64.wrap ((↑l.length : Int) - (1 : Int)))) then
                     some
                       (Ex.ret,
                         Sx (21 : Nat)
                           [IV.fsl nl cl (nat_lit 1) xs, IV.fsl nl' cl' (nat_lit 1) ys, IV.int IntKind.i64 least,
                             IV.osl (nat_lit 0) (nat_lit 0), IV.int IntKind.i64 (0 : Int), IV.osl (nat_lit 0) (nat_lit 0),
                             IV.int IntKind.i64 n, IV.int IntKind.i64 a, IV.int IntKind.i64 near, IV.int IntKind.i64 i]
                           [Blk.row (nat_lit 0) false (nat_lit 1) l])
                   else
                     bif decide ((0 : Int) ≤ (0 : Int) ∧ (0 : Int) ≤ a ∧ a ≤ (↑l.length : Int)) then
                       bif
                           decide
                             (((0 : Nat) = (1 : Nat) ∨ (0 : Nat) = (0 : Nat)) ∧
                               ((0 : Nat) = (0 : Nat) ∨
                                   (0 : Nat) < (List.take (a.toNat - (0 : Nat)) (List.drop (0 : Nat) l)).length) ∧
                                 ((0 : Nat) + (List.take (a.toNat - (0 : Nat)) (List.drop (0 : Nat) l)).length) *
                                       (8 : Nat) ≤
                                     roomB ∧
                                   (0 : Nat) + (List.take (a.toNat - (0 : Nat)) (List.drop (0 : Nat) l)).length ≤
                                     maxLen) then
                         bif
                             decide
                               ((0 : Int) ≤ IntKind.i64.wrap (a + (1 : Int)) ∧
                                 IntKind.i64.wrap (a + (1 : Int)) ≤ (↑l.length : Int) ∧
                                   (↑l.length : Int) ≤ (↑l.length : Int)) then
                           bif
                               decide
                                 ((([] ++ List.take (a.toNat - (0 : Nat)) (List.drop (0 : Nat) l)).length +
                                         (List.take ((↑l.length : Int).toNat - (IntKind.i64.wrap (a + (1 : Int))).toNat)
                                             (List.drop (IntKind.i64.wrap (a + (1 : Int))).toNat l)).length) *
                                       (8 : Nat) ≤
                                     roomB ∧
                                   ([] ++ List.take (a.toNat - (0 : Nat)) (List.drop (0 : Nat) l)).length +
                                       (List.take ((↑l.length : Int).toNat - (IntKind.i64.wrap (a + (1 : Int))).toNat)
                                           (List.drop (IntKind.i64.wrap (a + (1 : Int))).toNat l)).length ≤
                                     maxLen) then
                             some
                               (Ex.normal,
                                 Sx (21 : Nat)
                                   [IV.fsl nl cl (nat_lit 1) xs, IV.fsl nl' cl' (nat_lit 1) ys, IV.int IntKind.i64 least,
                                     IV.fsl (some true) true (nat_lit 0) [], IV.int IntKind.i64 (0 : Int),
                                     IV.osl (nat_lit 0) (nat_lit 0), IV.int IntKind.i64 n, IV.int IntKind.i64 a,
                                     IV.int IntKind.i64 near, IV.int IntKind.i64 i]
                                   [Blk.row (nat_lit 0) false (nat_lit 1)
                                       ([] ++ List.take (a.toNat - (0 : Nat)) (List.drop (0 : Nat) l) ++
                                         List.take ((↑l.length : Int).toNat - (IntKind.i64.wrap (a + (1 : Int))).toNat)
                                           (List.drop (IntKind.i64.wrap (a + (1 : Int))).toNat l))])
                           else none
                         else none
                       else none
                     else none
                 else none
               else none
             else none
           else none
         else none
       else none
     else none
   else
     some
       (Ex.exit (nat_lit 2),
         Sx (21 : Nat)
           [IV.fsl nl cl (nat_lit 1) xs, IV.fsl nl' cl' (nat_lit 1) ys, IV.int IntKind.i64 least,
             IV.fsl (some true) true (nat_lit 0) [], IV.int IntKind.i64 (0 : Int), IV.osl (nat_lit 0) (nat_lit 0),
             IV.int IntKind.i64 n, IV.undef, IV.undef, IV.undef]
           [Blk.row (nat_lit 0) false (nat_lit 1) l])) := by kernel_rfl
theorem rl_r1 (nl : Option Bool) (cl : Bool) (xs : List IV) (nl' : Option Bool) (cl' : Bool) (ys l : List IV) (least n a near i a1 a2 a3 : Int) (cf : Nat → List IV → Nat → List IV → Bool) (gf : List IV → List IV → Bool) (c : List IV → List IV → Int → Bool) (w : List IV → List IV → Int → Int) : Rl (tabU cf gf c w) (ltab [(21, 15914, LF 21 0 (oneF (rlV nl cl xs nl' cl' ys least n (.int .i64 0) (.int .i64 (nearX ys l)) (.int .i64 1)) [.row 0 false 1 l] (.exit 4) (rlV nl cl xs nl' cl' ys least n (.int .i64 a) (.int .i64 near) (.int .i64 i)) [.row 0 false 1 l]))]) 0 21 124 (Sx 21 (rlV nl cl xs nl' cl' ys least n (.int .i64 a1) (.int .i64 a2) (.int .i64 a3)) [.row 0 false 1 l]) =
  (bif decide ((↑l.length : Int) > least) then
     bif decide ((0 : Int) ≤ (0 : Int) ∧ (0 : Int) < (↑l.length : Int)) then
       bif decide ((0 : Nat) < l.length) then
         bif isOf (LT.i IntKind.i64) (nthD (List.drop (0 : Nat) (nthD l (0 : Nat)).cells) (0 : Nat)) then
           bif
               decide
                 ((1 : Nat) = (1 : Nat) ∧
                   (0 : Int) ≤ Im.intOf (nthD (List.drop (0 : Nat) (nthD l (0 : Nat)).cells) (0 : Nat)) ∧
                     Im.intOf (nthD (List.drop (0 : Nat) (nthD l (0 : Nat)).cells) (0 : Nat)) < (↑ys.length : Int)) then
             bif
                 isOf (LT.i IntKind.i64)
                   (nthD (nthD ys (Im.intOf (nthD (List.drop (0 : Nat) (nthD l (0 : Nat)).cells) (0 : Nat))).toNat).cells
                     (0 : Nat)) then
               bif sameS (rlV nl cl xs nl' cl' ys least n (.int .i64 0) (.int .i64 (nearX ys l)) (.int .i64 1)) [.row 0 false 1 l] then
                 bif c xs l a then
                   bif decide (w xs l a ≤ IntKind.i64.wrap (near * IntKind.i64.wrap ((↑l.length : Int) - (1 : Int)))) then
                     some
                       (Ex.ret,
                         Sx (21 : Nat)
                           [IV.fsl nl cl (nat_lit 1) xs, IV.fsl nl' cl' (nat_lit 1) ys, IV.int IntKind.i64 least,
                             IV.osl (nat_lit 0) (nat_lit 0), IV.int IntKind.i64 (0 : Int), IV.osl (nat_lit 0) (nat_lit 0),
                             IV.int IntKind.i64 n, IV.int IntKind.i64 a, IV.int IntKind.i64 near, IV.int IntKind.i64 i]
                           [Blk.row (nat_lit 0) false (nat_lit 1) l])
                   else
                     bif decide ((0 : Int) ≤ (0 : Int) ∧ (0 : Int) ≤ a ∧ a ≤ (↑l.length : Int)) then
                       bif
                           decide
                             (((0 : Nat) = (1 : Nat) ∨ (0 : Nat) = (0 : Nat)) ∧
                               ((0 : Nat) = (0 : Nat) ∨
                                   (0 : Nat) < (List.take (a.toNat - (0 : Nat)) (List.drop (0 : Nat) l)).length) ∧
                                 ((0 : Nat) + (List.take (a.toNat - (0 : Nat)) (List.drop (0 : Nat) l)).length) *
                                       (8 : Nat) ≤
                                     roomB ∧
                                   (0 : Nat) + (List.take (a.toNat - (0 : Nat)) (List.drop (0 : Nat) l)).length ≤
                                     maxLen) then
                         bif
                             decide
                               ((0 : Int) ≤ IntKind.i64.wrap (a + (1 : Int)) ∧
                                 IntKind.i64.wrap (a + (1 : Int)) ≤ (↑l.length : Int) ∧
                                   (↑l.length : Int) ≤ (↑l.length : Int)) then
                           bif
                               decide
                                 ((([] ++ List.take (a.toNat - (0 : Nat)) (List.drop (0 : Nat) l)).length +
                                         (List.take ((↑l.length : Int).toNat - (IntKind.i64.wrap (a + (1 : Int))).toNat)
                                             (List.drop (IntKind.i64.wrap (a + (1 : Int))).toNat l)).length) *
                                       (8 : Nat) ≤
                                     roomB ∧
                                   ([] ++ List.take (a.toNat - (0 : Nat)) (List.drop (0 : Nat) l)).length +
                                       (List.take ((↑l.length : Int).toNat - (IntKind.i64.wrap (a + (1 : Int))).toNat)
                                           (List.drop (IntKind.i64.wrap (a + (1 : Int))).toNat l)).length ≤
                                     maxLen) then
                             some
                               (Ex.normal,
                                 Sx (21 : Nat)
                                   [IV.fsl nl cl (nat_lit 1) xs, IV.fsl nl' cl' (nat_lit 1) ys, IV.int IntKind.i64 least,
                                     IV.fsl (some true) true (nat_lit 0) [], IV.int IntKind.i64 (0 : Int),
                                     IV.osl (nat_lit 0) (nat_lit 0), IV.int IntKind.i64 n, IV.int IntKind.i64 a,
                                     IV.int IntKind.i64 near, IV.int IntKind.i64 i]
                                   [Blk.row (nat_lit 0) false (nat_lit 1)
                                       ([] ++ List.take (a.toNat - (0 : Nat)) (List.drop (0 : Nat) l) ++
                                         List.take ((↑l.length : Int).toNat - (IntKind.i64.wrap (a + (1 : Int))).toNat)
                                           (List.drop (IntKind.i64.wrap (a + (1 : Int))).toNat l))])
                           else none
                         else none
                       else none
                     else none
                 else none
               else none
             else none
           else none
         else none
       else none
     else none
   else
     some
       (Ex.exit (nat_lit 2),
         Sx (21 : Nat)
           [IV.fsl nl cl (nat_lit 1) xs, IV.fsl nl' cl' (nat_lit 1) ys, IV.int IntKind.i64 least,
             IV.fsl (some true) true (nat_lit 0) [], IV.int IntKind.i64 (0 : Int), IV.osl (nat_lit 0) (nat_lit 0),
             IV.int IntKind.i64 n, IV.int IntKind.i64 a1, IV.int IntKind.i64 a2, IV.int IntKind.i64 a3]
           [Blk.row (nat_lit 0) false (nat_lit 1) l])) := by kernel_rfl
theorem rl_g0 (nl : Option Bool) (cl : Bool) (xs : List IV) (nl' : Option Bool) (cl' : Bool) (ys l : List IV) (least n : Int) (cf : Nat → List IV → Nat → List IV → Bool) (gf : List IV → List IV → Bool) (c : List IV → List IV → Int → Bool) (w : List IV → List IV → Int → Int) : Rl (tabU cf gf c w) (ltab [(21, 15914, noL)]) 0 21 124 (Sx 21 (rlV nl cl xs nl' cl' ys least n .undef .undef .undef) [.row 0 false 1 l]) =
  (bif decide ((↑l.length : Int) > least) then
     bif decide ((0 : Int) ≤ (0 : Int) ∧ (0 : Int) < (↑l.length : Int)) then
       bif decide ((0 : Nat) < l.length) then
         bif isOf (LT.i IntKind.i64) (nthD (List.drop (0 : Nat) (nthD l (0 : Nat)).cells) (0 : Nat)) then
           bif
               decide
                 ((1 : Nat) = (1 : Nat) ∧
                   (0 : Int) ≤ Im.intOf (nthD (List.drop (0 : Nat) (nthD l (0 : Nat)).cells) (0 : Nat)) ∧
                     Im.intOf (nthD (List.drop (0 : Nat) (nthD l (0 : Nat)).cells) (0 : Nat)) < (↑ys.length : Int)) then
             bif
                 isOf (LT.i IntKind.i64)
                   (nthD (nthD ys (Im.intOf (nthD (List.drop (0 : Nat) (nthD l (0 : Nat)).cells) (0 : Nat))).toNat).cells
                     (0 : Nat)) then
               none
             else none
           else none
         else none
       else none
     else none
   else
     some
       (Ex.exit (nat_lit 2),
         Sx (21 : Nat)
           [IV.fsl nl cl (nat_lit 1) xs, IV.fsl nl' cl' (nat_lit 1) ys, IV.int IntKind.i64 least,
             IV.fsl (some true) true (nat_lit 0) [], IV.int IntKind.i64 (0 : Int), IV.osl (nat_lit 0) (nat_lit 0),
             IV.int IntKind.i64 n, IV.undef, IV.undef, IV.undef]
           [Blk.row (nat_lit 0) false (nat_lit 1) l])) := by kernel_rfl
theorem rl_g1 (nl : Option Bool) (cl : Bool) (xs : List IV) (nl' : Option Bool) (cl' : Bool) (ys l : List IV) (least n a1 a2 a3 : Int) (cf : Nat → List IV → Nat → List IV → Bool) (gf : List IV → List IV → Bool) (c : List IV → List IV → Int → Bool) (w : List IV → List IV → Int → Int) : Rl (tabU cf gf c w) (ltab [(21, 15914, noL)]) 0 21 124 (Sx 21 (rlV nl cl xs nl' cl' ys least n (.int .i64 a1) (.int .i64 a2) (.int .i64 a3)) [.row 0 false 1 l]) =
  (bif decide ((↑l.length : Int) > least) then
     bif decide ((0 : Int) ≤ (0 : Int) ∧ (0 : Int) < (↑l.length : Int)) then
       bif decide ((0 : Nat) < l.length) then
         bif isOf (LT.i IntKind.i64) (nthD (List.drop (0 : Nat) (nthD l (0 : Nat)).cells) (0 : Nat)) then
           bif
               decide
                 ((1 : Nat) = (1 : Nat) ∧
                   (0 : Int) ≤ Im.intOf (nthD (List.drop (0 : Nat) (nthD l (0 : Nat)).cells) (0 : Nat)) ∧
                     Im.intOf (nthD (List.drop (0 : Nat) (nthD l (0 : Nat)).cells) (0 : Nat)) < (↑ys.length : Int)) then
             bif
                 isOf (LT.i IntKind.i64)
                   (nthD (nthD ys (Im.intOf (nthD (List.drop (0 : Nat) (nthD l (0 : Nat)).cells) (0 : Nat))).toNat).cells
                     (0 : Nat)) then
               none
             else none
           else none
         else none
       else none
     else none
   else
     some
       (Ex.exit (nat_lit 2),
         Sx (21 : Nat)
           [IV.fsl nl cl (nat_lit 1) xs, IV.fsl nl' cl' (nat_lit 1) ys, IV.int IntKind.i64 least,
             IV.fsl (some true) true (nat_lit 0) [], IV.int IntKind.i64 (0 : Int), IV.osl (nat_lit 0) (nat_lit 0),
             IV.int IntKind.i64 n, IV.int IntKind.i64 a1, IV.int IntKind.i64 a2, IV.int IntKind.i64 a3]
           [Blk.row (nat_lit 0) false (nat_lit 1) l])) := by kernel_rfl
abbrev rl0 (nl : Option Bool) (cl : Bool) (xs : List IV) (nl' : Option Bool) (cl' : Bool) (ys : List IV) (least : Int) : List IV := rlV nl cl xs nl' cl' ys least (xs.length : Int) .undef .undef .undef
abbrev rl1 (nl : Option Bool) (cl : Bool) (xs : List IV) (nl' : Option Bool) (cl' : Bool) (ys : List IV) (least a b c : Int) : List IV := rlV nl cl xs nl' cl' ys least (xs.length : Int) (.int .i64 a) (.int .i64 b) (.int .i64 c)
abbrev rl2 (nl : Option Bool) (cl : Bool) (xs : List IV) (nl' : Option Bool) (cl' : Bool) (ys : List IV) (least a b c : Int) : List IV := rlW nl cl xs nl' cl' ys least (xs.length : Int) a b c
noncomputable abbrev rlF (nl : Option Bool) (cl : Bool) (xs : List IV) (nl' : Option Bool) (cl' : Bool) (ys l : List IV) (least : Int) (e : Ex) (vs : List IV) (bx : List Blk) : FuncId → Nat → Option LoopF := ltab [(21, 122, LF 21 0 (oneF (rlV nl cl xs nl' cl' ys least 0 .undef .undef .undef) [.row 0 false 1 []] (.exit 0) (rl0 nl cl xs nl' cl' ys least) [.row 0 false 1 l])), (21, 124, LF 21 0 (oneF (rl0 nl cl xs nl' cl' ys least) [.row 0 false 1 l] e vs bx))]
noncomputable abbrev rlE (nl : Option Bool) (cl : Bool) (xs : List IV) (nl' : Option Bool) (cl' : Bool) (ys l l' : List IV) (least : Int) (cf : Nat → List IV → Nat → List IV → Bool) (gf : List IV → List IV → Bool) : Option (IV × List Blk) := clR cf gf xs ys least (bif sameS (rlV nl cl xs nl' cl' ys least 0 .undef .undef .undef) [.row 0 false 1 []] then bif sameS (rl0 nl cl xs nl' cl' ys least) [.row 0 false 1 l] then some (.tup [.osl 0 0, .int .i64 0], [.row 0 false 1 l']) else none else none)
noncomputable abbrev rlC (ls : FuncId → Nat → Option LoopF) (nl : Option Bool) (cl : Bool) (xs : List IV) (nl' : Option Bool) (cl' : Bool) (ys : List IV) (least : Int) (cf : Nat → List IV → Nat → List IV → Bool) (gf : List IV → List IV → Bool) (c : List IV → List IV → Int → Bool) (w : List IV → List IV → Int → Int) : Option (IV × List Blk) := callK Try.prog hint (tabU cf gf c w) ls 30 21 [.fsl nl cl 1 xs, .fsl nl' cl' 1 ys, .int .i64 least] [] (fun v T => some (v, T))
theorem rl_bad (nl : Option Bool) (cl : Bool) (xs : List IV) (nl' : Option Bool) (cl' : Bool) (ys : List IV) (least : Int) (cf : Nat → List IV → Nat → List IV → Bool) (gf : List IV → List IV → Bool) (c : List IV → List IV → Int → Bool) (w : List IV → List IV → Int → Int) : rlC (ltab [(21, 122, noL)]) nl cl xs nl' cl' ys least cf gf c w = clR cf gf xs ys least none := by kernel_rfl
theorem rl_call0 (nl : Option Bool) (cl : Bool) (xs : List IV) (nl' : Option Bool) (cl' : Bool) (ys l l' : List IV) (least : Int) (cf : Nat → List IV → Nat → List IV → Bool) (gf : List IV → List IV → Bool) (c : List IV → List IV → Int → Bool) (w : List IV → List IV → Int → Int) : rlC (rlF nl cl xs nl' cl' ys l least (.exit 2) (rl0 nl cl xs nl' cl' ys least) [.row 0 false 1 l']) nl cl xs nl' cl' ys least cf gf c w = rlE nl cl xs nl' cl' ys l l' least cf gf := by kernel_rfl
theorem rl_call1 (nl : Option Bool) (cl : Bool) (xs : List IV) (nl' : Option Bool) (cl' : Bool) (ys l l' : List IV) (least a b d : Int) (cf : Nat → List IV → Nat → List IV → Bool) (gf : List IV → List IV → Bool) (c : List IV → List IV → Int → Bool) (w : List IV → List IV → Int → Int) : rlC (rlF nl cl xs nl' cl' ys l least (.exit 2) (rl1 nl cl xs nl' cl' ys least a b d) [.row 0 false 1 l']) nl cl xs nl' cl' ys least cf gf c w = rlE nl cl xs nl' cl' ys l l' least cf gf := by kernel_rfl
theorem rl_call2 (nl : Option Bool) (cl : Bool) (xs : List IV) (nl' : Option Bool) (cl' : Bool) (ys l l' : List IV) (least a b d : Int) (cf : Nat → List IV → Nat → List IV → Bool) (gf : List IV → List IV → Bool) (c : List IV → List IV → Int → Bool) (w : List IV → List IV → Int → Int) : rlC (rlF nl cl xs nl' cl' ys l least .ret (rl2 nl cl xs nl' cl' ys least a b d) [.row 0 false 1 l']) nl cl xs nl' cl' ys least cf gf c w = rlE nl cl xs nl' cl' ys l l' least cf gf := by kernel_rfl
/-! ### The document's Combine -/
abbrev rkV (nl : Option Bool) (cl : Bool) (xs : List IV) (nl' : Option Bool) (cl' : Bool) (ys : List IV) (s a i : Int) : List IV := [.fsl nl cl 1 xs, .fsl nl' cl' 1 ys, .int .i64 s, .int .i64 a, .int .i64 i]
theorem rm_in (sp : FuncId → Option SpecF) (nl : Option Bool) (cl : Bool) (xs : List IV) (nl' : Option Bool) (cl' : Bool) (ys : List IV) (sum al i : Int) : Rd sp 22 250 (Sx 22 (rkV nl cl xs nl' cl' ys sum al i) []) =
  (bif decide (i < (↑xs.length : Int)) then
     bif decide ((1 : Nat) = (1 : Nat) ∧ (0 : Int) ≤ i ∧ i < (↑ys.length : Int)) then
       bif isOf (LT.i IntKind.i64) (nthD (nthD ys i.toNat).cells (0 : Nat)) then
         bif
             decide
               (IntKind.i64.wrap
                   (IntKind.i64.wrap ((Im.intOf (nthD (nthD ys i.toNat).cells (0 : Nat))).tdiv (65536 : Int)) +
                     (1 : Int)) =
                 (0 : Int)) then
           none
         else
           bif
               decide
                 (IntKind.i64.wrap
                     (Int.tdiv (65536 : Int)
                       (IntKind.i64.wrap
                         (IntKind.i64.wrap ((Im.intOf (nthD (nthD ys i.toNat).cells (0 : Nat))).tdiv (65536 : Int)) +
                           (1 : Int)))) <
                   (1 : Int)) then
             bif decide ((1 : Nat) = (1 : Nat) ∧ (0 : Int) ≤ i ∧ i < (↑xs.length : Int)) then
               bif isOf (LT.i IntKind.i64) (nthD (nthD xs i.toNat).cells (0 : Nat)) then
                 some
                   (Ex.normal,
                     Sx (22 : Nat)
                       [IV.fsl nl cl (nat_lit 1) xs, IV.fsl nl' cl' (nat_lit 1) ys,
                         IV.int IntKind.i64
                           (IntKind.i64.wrap
                             (sum + IntKind.i64.wrap ((1 : Int) * Im.intOf (nthD (nthD xs i.toNat).cells (0 : Nat))))),
                         IV.int IntKind.i64 (IntKind.i64.wrap (al + (1 : Int))),
                         IV.int IntKind.i64 (IntKind.i64.wrap (i + (1 : Int)))]
                       [])
               else none
             else none
           else
             bif decide ((1 : Nat) = (1 : Nat) ∧ (0 : Int) ≤ i ∧ i < (↑xs.length : Int)) then
               bif isOf (LT.i IntKind.i64) (nthD (nthD xs i.toNat).cells (0 : Nat)) then
                 some
                   (Ex.normal,
                     Sx (22 : Nat)
                       [IV.fsl nl cl (nat_lit 1) xs, IV.fsl nl' cl' (nat_lit 1) ys,
                         IV.int IntKind.i64
                           (IntKind.i64.wrap
                             (sum +
                               IntKind.i64.wrap
                                 (IntKind.i64.wrap
                                     (Int.tdiv (65536 : Int)
                                       (IntKind.i64.wrap
                                         (IntKind.i64.wrap
                                             ((Im.intOf (nthD (nthD ys i.toNat).cells (0 : Nat))).tdiv (65536 : Int)) +
                                           (1 : Int)))) *
                                   Im.intOf (nthD (nthD xs i.toNat).cells (0 : Nat))))),
                         IV.int IntKind.i64
                           (IntKind.i64.wrap
                             (al +
                               IntKind.i64.wrap
                                 (Int.tdiv (65536 : Int)
                                   (IntKind.i64.wrap
                                     (IntKind.i64.wrap
                                         ((Im.intOf (nthD (nthD ys i.toNat).cells (0 : Nat))).tdiv (65536 : Int)) +
                                       (1 : Int)))))),
                         IV.int IntKind.i64 (IntKind.i64.wrap (i + (1 : Int)))]
                       [])
               else none
             else none
       else none
     else none
   else
     some
       (Ex.exit (nat_lit 0),
         Sx (22 : Nat)
           [IV.fsl nl cl (nat_lit 1) xs, IV.fsl nl' cl' (nat_lit 1) ys, IV.int IntKind.i64 sum, IV.int IntKind.i64 al,
             IV.int IntKind.i64 i]
           [])) := by kernel_rfl
theorem rm_bad (nl : Option Bool) (cl : Bool) (xs : List IV) (nl' : Option Bool) (cl' : Bool) (ys : List IV) (cf : Nat → List IV → Nat → List IV → Bool) (gf : List IV → List IV → Bool) : callK Try.prog hint (tab [(14, fitQ cf gf)]) (ltab [(22, 250, noL)]) 30 22 [.fsl nl cl 1 xs, .fsl nl' cl' 1 ys] [] (fun v T => some (v, T)) =
  (bif cf (1 : Nat) xs (1 : Nat) ys then
     bif !gf xs ys then some (IV.tup [IV.int IntKind.i64 (0 : Int), IV.int IntKind.i64 (1 : Int)], [])
     else
       bif (↑xs.length : Int) == (0 : Int) then
         some (IV.tup [IV.int IntKind.i64 (0 : Int), IV.int IntKind.i64 (4 : Int)], [])
       else none
   else none) := by kernel_rfl
theorem rm_call  (nl : Option Bool) (cl : Bool) (xs : List IV) (nl' : Option Bool) (cl' : Bool) (ys : List IV) (s a : Int) (cf : Nat → List IV → Nat → List IV → Bool) (gf : List IV → List IV → Bool) : callK Try.prog hint (tab [(14, fitQ cf gf)]) (ltab [(22, 250, LF 22 0 (oneF (rkV nl cl xs nl' cl' ys 0 0 0) [] (.exit 0) (rkV nl cl xs nl' cl' ys s a (xs.length : Int)) []))]) 30 22 [.fsl nl cl 1 xs, .fsl nl' cl' 1 ys] [] (fun v T => some (v, T)) =
  (bif cf (1 : Nat) xs (1 : Nat) ys then
     bif !gf xs ys then some (IV.tup [IV.int IntKind.i64 (0 : Int), IV.int IntKind.i64 (1 : Int)], [])
     else
       bif (↑xs.length : Int) == (0 : Int) then
         some (IV.tup [IV.int IntKind.i64 (0 : Int), IV.int IntKind.i64 (4 : Int)], [])
       else
         bif sameS (rkV nl cl xs nl' cl' ys 0 0 0) [] then
           bif decide (a = (0 : Int)) then none
           else
             bif decide (s < (0 : Int)) == true then
               bif decide (a = (0 : Int)) then none
               else
                 bif bif true then s.tmod a != (0 : Int) else false then
                   some
                     (IV.tup
                         [IV.int IntKind.i64 (IntKind.i64.wrap (IntKind.i64.wrap (s.tdiv a) - (1 : Int))),
                           IV.int IntKind.i64 (0 : Int)],
                       [])
                 else some (IV.tup [IV.int IntKind.i64 (IntKind.i64.wrap (s.tdiv a)), IV.int IntKind.i64 (0 : Int)], [])
             else some (IV.tup [IV.int IntKind.i64 (IntKind.i64.wrap (s.tdiv a)), IV.int IntKind.i64 (0 : Int)], [])
         else none
   else none) := by kernel_rfl
end Go.Proofs.Ytfcedalbamafiaa
