/- ChooseEnds: what the given program does. It bears no condition. -/
import Derived.Test.YtfcedalbamafiaaCiG
-- BYTES bytsH9
-- SUB (b0 : Bool)  => 
-- SUB cstF b0 => oneF (enV nl cl l (lo l) (hi l) false false 0) []
-- SUB bif b0 => bif sameS (enV nl cl l (lo l) (hi l) false false 0) []
namespace Go.Proofs.Ytfcedalbamafiaa
open Go Go.Im
set_option linter.unusedVariables false
set_option linter.unusedSimpArgs false
abbrev enV (nl : Option Bool) (cl : Bool) (l : List IV) (a b : Int) (low high : Bool) (i : Int) : List IV := [.fsl nl cl 3 l, .int .i64 a, .int .i64 b, .bool low, .bool high, .int .i64 i]
theorem en_in (sp : FuncId → Option SpecF) (nl : Option Bool) (cl : Bool) (l : List IV) (a b i : Int) (low high : Bool) : Rd sp 4 506 (Sx 4 (enV nl cl l a b low high i) []) =
  (bif decide (i < (↑l.length : Int)) then
     bif low == false then
       bif decide ((3 : Nat) = (3 : Nat) ∧ (0 : Int) ≤ i ∧ i < (↑l.length : Int)) then
         bif isOf (LT.i IntKind.i64) (nthD (List.drop (0 : Nat) (nthD l i.toNat).cells) (0 : Nat)) then
           bif high == false then
             bif decide ((3 : Nat) = (3 : Nat) ∧ (0 : Int) ≤ i ∧ i < (↑l.length : Int)) then
               bif isOf (LT.i IntKind.i64) (nthD (List.drop (2 : Nat) (nthD l i.toNat).cells) (0 : Nat)) then
                 some
                   (Ex.normal,
                     Sx (4 : Nat)
                       [IV.fsl nl cl (nat_lit 3) l, IV.int IntKind.i64 a, IV.int IntKind.i64 b,
                         IV.bool
                           (bif false then true
                           else Im.intOf (nthD (List.drop (0 : Nat) (nthD l i.toNat).cells) (0 : Nat)) == a),
                         IV.bool
                           (bif false then true
                           else Im.intOf (nthD (List.drop (2 : Nat) (nthD l i.toNat).cells) (0 : Nat)) == b),
                         IV.int IntKind.i64 (IntKind.i64.wrap (i + (1 : Int)))]
                       [])
               else none
             else none
           else
             some
               (Ex.normal,
                 Sx (4 : Nat)
                   [IV.fsl nl cl (nat_lit 3) l, IV.int IntKind.i64 a, IV.int IntKind.i64 b,
                     IV.bool
                       (bif false then true
                       else Im.intOf (nthD (List.drop (0 : Nat) (nthD l i.toNat).cells) (0 : Nat)) == a),
                     IV.bool true, IV.int IntKind.i64 (IntKind.i64.wrap (i + (1 : Int)))]
                   [])
         else none
       else none
     else
       bif high == false then
         bif decide ((3 : Nat) = (3 : Nat) ∧ (0 : Int) ≤ i ∧ i < (↑l.length : Int)) then
           bif isOf (LT.i IntKind.i64) (nthD (List.drop (2 : Nat) (nthD l i.toNat).cells) (0 : Nat)) then
             some
               (Ex.normal,
                 Sx (4 : Nat)
                   [IV.fsl nl cl (nat_lit 3) l, IV.int IntKind.i64 a, IV.int IntKind.i64 b, IV.bool true,
                     IV.bool
                       (bif false then true
                       else Im.intOf (nthD (List.drop (2 : Nat) (nthD l i.toNat).cells) (0 : Nat)) == b),
                     IV.int IntKind.i64 (IntKind.i64.wrap (i + (1 : Int)))]
                   [])
           else none
         else none
       else
         some
           (Ex.normal,
             Sx (4 : Nat)
               [IV.fsl nl cl (nat_lit 3) l, IV.int IntKind.i64 a, IV.int IntKind.i64 b, IV.bool true, IV.bool true,
                 IV.int IntKind.i64 (IntKind.i64.wrap (i + (1 : Int)))]
               [])
   else
     some
       (Ex.exit (nat_lit 0),
         Sx (4 : Nat)
           [IV.fsl nl cl (nat_lit 3) l, IV.int IntKind.i64 a, IV.int IntKind.i64 b, IV.bool low, IV.bool high,
             IV.int IntKind.i64 i]
           [])) := by kernel_rfl
theorem en_none (nl : Option Bool) (cl : Bool) (l : List IV) (c : Nat → List IV → Bool) (lo hi co : List IV → Int) (g : List IV → Int → Int) : callK Try.prog hint (tabJ c lo hi co g) (ltab [(4, 506, noL)]) 30 4 [.fsl nl cl 3 l] [] (fun v T => some (v, T)) =
  (bif decide ((↑l.length : Int) ≥ (64 : Int)) then some (IV.bool true, [])
   else
     bif c (3 : Nat) l then
       bif co l != (0 : Int) then
         some (IV.bool (bif bif true then lo l == (0 : Int) else false then hi l == (0 : Int) else false), [])
       else none
     else none) := by kernel_rfl
theorem en_tree (nl : Option Bool) (cl : Bool) (l : List IV) (c : Nat → List IV → Bool) (lo hi co : List IV → Int) (g : List IV → Int → Int) (low high : Bool) : callK Try.prog hint (tabJ c lo hi co g) (ltab [(4, 506, LF 4 0 (oneF (enV nl cl l (lo l) (hi l) false false 0) [] (.exit 0) (enV nl cl l (lo l) (hi l) low high (l.length : Int)) []))]) 30 4 [.fsl nl cl 3 l] [] (fun v T => some (v, T)) =
  (bif decide ((↑l.length : Int) ≥ (64 : Int)) then some (IV.bool true, [])
   else
     bif c (3 : Nat) l then
       bif co l != (0 : Int) then
         some (IV.bool (bif bif true then lo l == (0 : Int) else false then hi l == (0 : Int) else false), [])
       else
         bif sameS (enV nl cl l (lo l) (hi l) false false 0) [] then
           bif (bif bif !low then true else !high then true else decide (lo l > hi l)) == false then
             bif c (3 : Nat) l then
               bif
                   (bif false then true else decide (IntKind.i64.wrap ((2 : Int) * g l (lo l)) ≤ (↑l.length : Int))) ==
                     false then
                 bif c (3 : Nat) l then
                   bif bif false then true else decide (IntKind.i64.wrap ((2 : Int) * g l (hi l)) ≤ (↑l.length : Int)) then
                     some (IV.bool false, [])
                   else
                     bif
                         decide
                           (((0 : Nat) = (3 : Nat) ∨ (0 : Nat) = (0 : Nat)) ∧
                             ((0 : Nat) = (0 : Nat) ∨ (0 : Nat) < l.length) ∧
                               ((0 : Nat) + l.length) * (24 : Nat) ≤ roomB ∧ (0 : Nat) + l.length ≤ maxLen) then
                       bif
                           decide
                             ((([] ++ l).length + (1 : Nat)) * (24 : Nat) ≤ roomB ∧
                               ([] ++ l).length + (1 : Nat) ≤ maxLen) then
                         bif
                             c (3 : Nat)
                               ([] ++ l ++
                                 [IV.agg
                                     [IV.int IntKind.i64 (-9223372036854775808 : Int), IV.int IntKind.i64 (0 : Int),
                                       IV.int IntKind.i64 (9223372036854775807 : Int)]]) then
                           some
                             (IV.bool
                                 (bif
                                     bif
                                         bif true then
                                           co
                                               ([] ++ l ++
                                                 [IV.agg
                                                     [IV.int IntKind.i64 (-9223372036854775808 : Int),
                                                       IV.int IntKind.i64 (0 : Int),
                                                       IV.int IntKind.i64 (9223372036854775807 : Int)]]) ==
                                             (0 : Int)
                                         else false then
                                       decide
                                         (lo
                                             ([] ++ l ++
                                               [IV.agg
                                                   [IV.int IntKind.i64 (-9223372036854775808 : Int),
                                                     IV.int IntKind.i64 (0 : Int),
                                                     IV.int IntKind.i64 (9223372036854775807 : Int)]]) ≤
                                           lo l)
                                     else false then
                                   decide
                                     (hi l ≤
                                       hi
                                         ([] ++ l ++
                                           [IV.agg
                                               [IV.int IntKind.i64 (-9223372036854775808 : Int),
                                                 IV.int IntKind.i64 (0 : Int),
                                                 IV.int IntKind.i64 (9223372036854775807 : Int)]]))
                                 else false),
                               [])
                         else none
                       else none
                     else none
                 else none
               else some (IV.bool false, [])
             else none
           else some (IV.bool false, [])
         else none
     else none) := by kernel_rfl
end Go.Proofs.Ytfcedalbamafiaa
