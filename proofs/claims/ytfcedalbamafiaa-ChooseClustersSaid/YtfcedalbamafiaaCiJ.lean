/- The document's own: what the given program does. It bears no condition. -/
import Derived.Test.YtfcedalbamafiaaCiI
-- BYTES bytsJ9
namespace Go.Proofs.Ytfcedalbamafiaa
open Go Go.Im
set_option linter.unusedVariables false
set_option linter.unusedSimpArgs false
abbrev rcV (nl : Option Bool) (cl : Bool) (l : List IV) (x n i : Int) : List IV := [.fsl nl cl 3 l, .int .i64 x, .int .i64 n, .int .i64 i]
theorem rc_in (nl : Option Bool) (cl : Bool) (l : List IV) (x n i : Int) : Rd (tab []) 18 58 (Sx 18 (rcV nl cl l x n i) []) =
  (bif decide (i < (↑l.length : Int)) then
     bif decide ((3 : Nat) = (3 : Nat) ∧ (0 : Int) ≤ i ∧ i < (↑l.length : Int)) then
       bif isOf (LT.i IntKind.i64) (nthD (List.drop (0 : Nat) (nthD l i.toNat).cells) (0 : Nat)) then
         bif decide (x ≥ Im.intOf (nthD (List.drop (0 : Nat) (nthD l i.toNat).cells) (0 : Nat))) == true then
           bif decide ((3 : Nat) = (3 : Nat) ∧ (0 : Int) ≤ i ∧ i < (↑l.length : Int)) then
             bif isOf (LT.i IntKind.i64) (nthD (List.drop (2 : Nat) (nthD l i.toNat).cells) (0 : Nat)) then
               bif
                   bif true then decide (x ≤ Im.intOf (nthD (List.drop (2 : Nat) (nthD l i.toNat).cells) (0 : Nat)))
                   else false then
                 some
                   (Ex.normal,
                     Sx (18 : Nat)
                       [IV.fsl nl cl (nat_lit 3) l, IV.int IntKind.i64 x,
                         IV.int IntKind.i64 (IntKind.i64.wrap (n + (1 : Int))),
                         IV.int IntKind.i64 (IntKind.i64.wrap (i + (1 : Int)))]
                       [])
               else
                 some
                   (Ex.normal,
                     Sx (18 : Nat)
                       [IV.fsl nl cl (nat_lit 3) l, IV.int IntKind.i64 x, IV.int IntKind.i64 n,
                         IV.int IntKind.i64 (IntKind.i64.wrap (i + (1 : Int)))]
                       [])
             else none
           else none
         else
           some
             (Ex.normal,
               Sx (18 : Nat)
                 [IV.fsl nl cl (nat_lit 3) l, IV.int IntKind.i64 x, IV.int IntKind.i64 n,
                   IV.int IntKind.i64 (IntKind.i64.wrap (i + (1 : Int)))]
                 [])
       else none
     else none
   else
     some
       (Ex.exit (nat_lit 0),
         Sx (18 : Nat) [IV.fsl nl cl (nat_lit 3) l, IV.int IntKind.i64 x, IV.int IntKind.i64 n, IV.int IntKind.i64 i] [])) := by kernel_rfl
theorem rc_call (nl : Option Bool) (cl : Bool) (l : List IV) (x n : Int) : callK Try.prog hint (tab []) (ltab [(18, 58, LF 18 0 (oneF (rcV nl cl l x 0 0) [] (.exit 0) (rcV nl cl l x n (l.length : Int)) []))]) 30 18 [.fsl nl cl 3 l, .int .i64 x] [] (fun v T => some (v, T)) =
    bif sameS (rcV nl cl l x 0 0) [] then some (.int .i64 n, []) else none := by kernel_rfl
abbrev reV (nl : Option Bool) (cl : Bool) (l : List IV) (c i : Int) : List IV := [.fsl nl cl 3 l, .int .i64 0, .int .i64 0, .int .i64 c, .int .i64 i, .undef, .undef, .undef, .undef]
abbrev rfV (nl : Option Bool) (cl : Bool) (l : List IV) (lo hi : Int) (f : Bool) (i : Int) : List IV := [.fsl nl cl 3 l, .int .i64 0, .int .i64 0, .int .i64 0, .int .i64 (l.length : Int), .int .i64 lo, .int .i64 hi, .bool f, .int .i64 i]
theorem re_in (sp : FuncId → Option SpecF) (nl : Option Bool) (cl : Bool) (l : List IV) (i : Int) : Rd sp 15 58 (Sx 15 (reV nl cl l 0 i) []) =
  (bif decide (i < (↑l.length : Int)) then
     bif decide ((3 : Nat) = (3 : Nat) ∧ (0 : Int) ≤ i ∧ i < (↑l.length : Int)) then
       bif isOf (LT.i IntKind.i64) (nthD (List.drop (0 : Nat) (nthD l i.toNat).cells) (0 : Nat)) then
         bif decide ((3 : Nat) = (3 : Nat) ∧ (0 : Int) ≤ i ∧ i < (↑l.length : Int)) then
           bif isOf (LT.i IntKind.i64) (nthD (List.drop (1 : Nat) (nthD l i.toNat).cells) (0 : Nat)) then
             bif
                 decide
                     (Im.intOf (nthD (List.drop (0 : Nat) (nthD l i.toNat).cells) (0 : Nat)) >
                       Im.intOf (nthD (List.drop (1 : Nat) (nthD l i.toNat).cells) (0 : Nat))) ==
                   false then
               bif decide ((3 : Nat) = (3 : Nat) ∧ (0 : Int) ≤ i ∧ i < (↑l.length : Int)) then
                 bif isOf (LT.i IntKind.i64) (nthD (List.drop (1 : Nat) (nthD l i.toNat).cells) (0 : Nat)) then
                   bif decide ((3 : Nat) = (3 : Nat) ∧ (0 : Int) ≤ i ∧ i < (↑l.length : Int)) then
                     bif isOf (LT.i IntKind.i64) (nthD (List.drop (2 : Nat) (nthD l i.toNat).cells) (0 : Nat)) then
                       bif
                           bif false then true
                           else
                             decide
                               (Im.intOf (nthD (List.drop (1 : Nat) (nthD l i.toNat).cells) (0 : Nat)) >
                                 Im.intOf (nthD (List.drop (2 : Nat) (nthD l i.toNat).cells) (0 : Nat))) then
                         some
                           (Ex.ret,
                             Sx (15 : Nat)
                               [IV.fsl nl cl (nat_lit 3) l, IV.int IntKind.i64 (0 : Int), IV.int IntKind.i64 (0 : Int),
                                 IV.int IntKind.i64 (1 : Int), IV.int IntKind.i64 i, IV.undef, IV.undef, IV.undef,
                                 IV.undef]
                               [])
                       else
                         some
                           (Ex.normal,
                             Sx (15 : Nat)
                               [IV.fsl nl cl (nat_lit 3) l, IV.int IntKind.i64 (0 : Int), IV.int IntKind.i64 (0 : Int),
                                 IV.int IntKind.i64 (0 : Int), IV.int IntKind.i64 (IntKind.i64.wrap (i + (1 : Int))),
                                 IV.undef, IV.undef, IV.undef, IV.undef]
                               [])
                     else none
                   else none
                 else none
               else none
             else
               some
                 (Ex.ret,
                   Sx (15 : Nat)
                     [IV.fsl nl cl (nat_lit 3) l, IV.int IntKind.i64 (0 : Int), IV.int IntKind.i64 (0 : Int),
                       IV.int IntKind.i64 (1 : Int), IV.int IntKind.i64 i, IV.undef, IV.undef, IV.undef, IV.undef]
                     [])
           else none
         else none
       else none
     else none
   else
     some
       (Ex.exit (nat_lit 0),
         Sx (15 : Nat)
           [IV.fsl nl cl (nat_lit 3) l, IV.int IntKind.i64 (0 : Int), IV.int IntKind.i64 (0 : Int),
             IV.int IntKind.i64 (0 : Int), IV.int IntKind.i64 i, IV.undef, IV.undef, IV.undef, IV.undef]
           [])) := by kernel_rfl
theorem rf_in (nl : Option Bool) (cl : Bool) (l : List IV) (lo hi i : Int) (f : Bool) (c : Nat → List IV → Bool) (g : List IV → Int → Int) : Rd (tab [(18, covP c g)]) 15 250 (Sx 15 (rfV nl cl l lo hi f i) []) =
  (bif decide (i < IntKind.i64.wrap ((2 : Int) * (↑l.length : Int))) then
     bif
         decide
           ((3 : Nat) = (3 : Nat) ∧
             (0 : Int) ≤ IntKind.i64.wrap (i.tdiv (2 : Int)) ∧
               IntKind.i64.wrap (i.tdiv (2 : Int)) < (↑l.length : Int)) then
       bif
           isOf (LT.i IntKind.i64)
             (nthD (List.drop (0 : Nat) (nthD l (IntKind.i64.wrap (i.tdiv (2 : Int))).toNat).cells) (0 : Nat)) then
         bif i.tmod (2 : Int) == (1 : Int) then
           bif
               decide
                 ((3 : Nat) = (3 : Nat) ∧
                   (0 : Int) ≤ IntKind.i64.wrap (i.tdiv (2 : Int)) ∧
                     IntKind.i64.wrap (i.tdiv (2 : Int)) < (↑l.length : Int)) then
             bif
                 isOf (LT.i IntKind.i64)
                   (nthD (List.drop (2 : Nat) (nthD l (IntKind.i64.wrap (i.tdiv (2 : Int))).toNat).cells) (0 : Nat)) then
               bif c (3 : Nat) l then
                 bif
                     decide
                       (IntKind.i64.wrap
                           ((2 : Int) *
                             g l
                               (Im.intOf
                                 (nthD (List.drop (2 : Nat) (nthD l (IntKind.i64.wrap (i.tdiv (2 : Int))).toNat).cells)
                                   (0 : Nat)))) ≤
                         (↑l.length : Int)) then
                   some
                     (Ex.normal,
                       Sx (15 : Nat)
                         [IV.fsl nl cl (nat_lit 3) l, IV.int IntKind.i64 (0 : Int), IV.int IntKind.i64 (0 : Int),
                           IV.int IntKind.i64 (0 : Int), IV.int IntKind.i64 (↑l.length : Int), IV.int IntKind.i64 lo,
                           IV.int IntKind.i64 hi, IV.bool f, IV.int IntKind.i64 (IntKind.i64.wrap (i + (1 : Int)))]
                         [])
                 else
                   bif
                       bif !f then true
                       else
                         decide
                           (Im.intOf
                               (nthD (List.drop (2 : Nat) (nthD l (IntKind.i64.wrap (i.tdiv (2 : Int))).toNat).cells)
                                 (0 : Nat)) <
                             lo) then
                     bif
                         bif !f then true
                         else
                           decide
                             (Im.intOf
                                 (nthD (List.drop (2 : Nat) (nthD l (IntKind.i64.wrap (i.tdiv (2 : Int))).toNat).cells)
                                   (0 : Nat)) >
                               hi) then
                       some
                         (Ex.normal,
                           Sx (15 : Nat)
                             [IV.fsl nl cl (nat_lit 3) l, IV.int IntKind.i64 (0 : Int), IV.int IntKind.i64 (0 : Int),
                               IV.int IntKind.i64 (0 : Int), IV.int IntKind.i64 (↑l.length : Int),
                               IV.int IntKind.i64
                                 (Im.intOf
                                   (nthD (List.drop (2 : Nat) (nthD l (IntKind.i64.wrap (i.tdiv (2 : Int))).toNat).cells)
                                     (0 : Nat))),
                               IV.int IntKind.i64
                                 (Im.intOf
                                   (nthD (List.drop (2 : Nat) (nthD l (IntKind.i64.wrap (i.tdiv (2 : Int))).toNat).cells)
                                     (0 : Nat))),
                               IV.bool true, IV.int IntKind.i64 (IntKind.i64.wrap (i + (1 : Int)))]
                             [])
                     else
                       some
                         (Ex.normal,
                           Sx (15 : Nat)
                             [IV.fsl nl cl (nat_lit 3) l, IV.int IntKind.i64 (0 : Int), IV.int IntKind.i64 (0 : Int),
                               IV.int IntKind.i64 (0 : Int), IV.int IntKind.i64 (↑l.length : Int),
                               IV.int IntKind.i64
                                 (Im.intOf
                                   (nthD (List.drop (2 : Nat) (nthD l (IntKind.i64.wrap (i.tdiv (2 : Int))).toNat).cells)
                                     (0 : Nat))),
                               IV.int IntKind.i64 hi, IV.bool true, IV.int IntKind.i64 (IntKind.i64.wrap (i + (1 : Int)))]
                             [])
                   else
                     bif
                         bif !f then true
                         else
                           decide
                             (Im.intOf
                                 (nthD (List.drop (2 : Nat) (nthD l (IntKind.i64.wrap (i.tdiv (2 : Int))).toNat).cells)
                                   (0 : Nat)) >
                               hi) then
                       some
                         (Ex.normal,
                           Sx (15 : Nat)
                             [IV.fsl nl cl (nat_lit 3) l, IV.int IntKind.i64 (0 : Int), IV.int IntKind.i64 (0 : Int),
                               IV.int IntKind.i64 (0 : Int), IV.int IntKind.i64 (↑l.length : Int), IV.int IntKind.i64 lo,
                               IV.int IntKind.i64
                                 (Im.intOf
                                   (nthD (List.drop (2 : Nat) (nthD l (IntKind.i64.wrap (i.tdiv (2 : Int))).toNat).cells)
                                     (0 : Nat))),
                               IV.bool true, IV.int IntKind.i64 (IntKind.i64.wrap (i + (1 : Int)))]
                             [])
                     else
                       some
                         (Ex.normal,
                           Sx (15 : Nat)
                             [IV.fsl nl cl (nat_lit 3) l, IV.int IntKind.i64 (0 : Int), IV.int IntKind.i64 (0 : Int),
                               IV.int IntKind.i64 (0 : Int), IV.int IntKind.i64 (↑l.length : Int), IV.int IntKind.i64 lo,
                               IV.int IntKind.i64 hi, IV.bool true, IV.int IntKind.i64 (IntKind.i64.wrap (i + (1 : Int)))]
                             [])
               else none
             else none
           else none
         else
           bif c (3 : Nat) l then
             bif
                 decide
                   (IntKind.i64.wrap
                       ((2 : Int) *
                         g l
                           (Im.intOf
                             (nthD (List.drop (0 : Nat) (nthD l (IntKind.i64.wrap (i.tdiv (2 : Int))).toNat).cells)
                               (0 : Nat)))) ≤
                     (↑l.length : Int)) then
               some
                 (Ex.normal,
                   Sx (15 : Nat)
                     [IV.fsl nl cl (nat_lit 3) l, IV.int IntKind.i64 (0 : Int), IV.int IntKind.i64 (0 : Int),
                       IV.int IntKind.i64 (0 : Int), IV.int IntKind.i64 (↑l.length : Int), IV.int IntKind.i64 lo,
                       IV.int IntKind.i64 hi, IV.bool f, IV.int IntKind.i64 (IntKind.i64.wrap (i + (1 : Int)))]
                     [])
             else
               bif
                   bif !f then true
                   else
                     decide
                       (Im.intOf
                           (nthD (List.drop (0 : Nat) (nthD l (IntKind.i64.wrap (i.tdiv (2 : Int))).toNat).cells)
                             (0 : Nat)) <
                         lo) then
                 bif
                     bif !f then true
                     else
                       decide
                         (Im.intOf
                             (nthD (List.drop (0 : Nat) (nthD l (IntKind.i64.wrap (i.tdiv (2 : Int))).toNat).cells)
                               (0 : Nat)) >
                           hi) then
                   some
                     (Ex.normal,
                       Sx (15 : Nat)
                         [IV.fsl nl cl (nat_lit 3) l, IV.int IntKind.i64 (0 : Int), IV.int IntKind.i64 (0 : Int),
                           IV.int IntKind.i64 (0 : Int), IV.int IntKind.i64 (↑l.length : Int),
                           IV.int IntKind.i64
                             (Im.intOf
                               (nthD (List.drop (0 : Nat) (nthD l (IntKind.i64.wrap (i.tdiv (2 : Int))).toNat).cells)
                                 (0 : Nat))),
                           IV.int IntKind.i64
                             (Im.intOf
                               (nthD (List.drop (0 : Nat) (nthD l (IntKind.i64.wrap (i.tdiv (2 : Int))).toNat).cells)
                                 (0 : Nat))),
                           IV.bool true, IV.int IntKind.i64 (IntKind.i64.wrap (i + (1 : Int)))]
                         [])
                 else
                   some
                     (Ex.normal,
                       Sx (15 : Nat)
                         [IV.fsl nl cl (nat_lit 3) l, IV.int IntKind.i64 (0 : Int), IV.int IntKind.i64 (0 : Int),
                           IV.int IntKind.i64 (0 : Int), IV.int IntKind.i64 (↑l.length : Int),
                           IV.int IntKind.i64
                             (Im.intOf
                               (nthD (List.drop (0 : Nat) (nthD l (IntKind.i64.wrap (i.tdiv (2 : Int))).toNat).cells)
                                 (0 : Nat))),
                           IV.int IntKind.i64 hi, IV.bool true, IV.int IntKind.i64 (IntKind.i64.wrap (i + (1 : Int)))]
                         [])
               else
                 bif
                     bif !f then true
                     else
                       decide
                         (Im.intOf
                             (nthD (List.drop (0 : Nat) (nthD l (IntKind.i64.wrap (i.tdiv (2 : Int))).toNat).cells)
                               (0 : Nat)) >
                           hi) then
                   some
                     (Ex.normal,
                       Sx (15 : Nat)
                         [IV.fsl nl cl (nat_lit 3) l, IV.int IntKind.i64 (0 : Int), IV.int IntKind.i64 (0 : Int),
                           IV.int IntKind.i64 (0 : Int), IV.int IntKind.i64 (↑l.length : Int), IV.int IntKind.i64 lo,
                           IV.int IntKind.i64
                             (Im.intOf
                               (nthD (List.drop (0 : Nat) (nthD l (IntKind.i64.wrap (i.tdiv (2 : Int))).toNat).cells)
                                 (0 : Nat))),
                           IV.bool true, IV.int IntKind.i64 (IntKind.i64.wrap (i + (1 : Int)))]
                         [])
                 else
                   some
                     (Ex.normal,
                       Sx (15 : Nat)
                         [IV.fsl nl cl (nat_lit 3) l, IV.int IntKind.i64 (0 : Int), IV.int IntKind.i64 (0 : Int),
                           IV.int IntKind.i64 (0 : Int), IV.int IntKind.i64 (↑l.length : Int), IV.int IntKind.i64 lo,
                           IV.int IntKind.i64 hi, IV.bool true, IV.int IntKind.i64 (IntKind.i64.wrap (i + (1 : Int)))]
                         [])
           else none
       else none
     else none
   else
     some
       (Ex.exit (nat_lit 2),
         Sx (15 : Nat)
           [IV.fsl nl cl (nat_lit 3) l, IV.int IntKind.i64 (0 : Int), IV.int IntKind.i64 (0 : Int),
             IV.int IntKind.i64 (0 : Int), IV.int IntKind.i64 (↑l.length : Int), IV.int IntKind.i64 lo,
             IV.int IntKind.i64 hi, IV.bool f, IV.int IntKind.i64 i]
           [])) := by kernel_rfl
theorem it_in (xs ys : List IV) (i : Int) : Rd (tab []) 19 58 (Sx 19 [.fsl none false 1 xs, .fsl none false 1 ys, .bool false, .int .i64 i] []) =
  (bif decide (i < (↑xs.length : Int)) then
     bif decide ((1 : Nat) = (1 : Nat) ∧ (0 : Int) ≤ i ∧ i < (↑xs.length : Int)) then
       bif isOf (LT.i IntKind.i64) (nthD (nthD xs i.toNat).cells (0 : Nat)) then
         bif decide ((1 : Nat) = (1 : Nat) ∧ (0 : Int) ≤ i ∧ i < (↑ys.length : Int)) then
           bif isOf (LT.i IntKind.i64) (nthD (nthD ys i.toNat).cells (0 : Nat)) then
             bif
                 Im.intOf (nthD (nthD xs i.toNat).cells (0 : Nat)) !=
                   Im.intOf (nthD (nthD ys i.toNat).cells (0 : Nat)) then
               some
                 (Ex.ret,
                   Sx (19 : Nat)
                     [IV.fsl none false (nat_lit 1) xs, IV.fsl none false (nat_lit 1) ys, IV.bool false,
                       IV.int IntKind.i64 i]
                     [])
             else
               some
                 (Ex.normal,
                   Sx (19 : Nat)
                     [IV.fsl none false (nat_lit 1) xs, IV.fsl none false (nat_lit 1) ys, IV.bool false,
                       IV.int IntKind.i64 (IntKind.i64.wrap (i + (1 : Int)))]
                     [])
           else none
         else none
       else none
     else none
   else
     some
       (Ex.exit (nat_lit 0),
         Sx (19 : Nat)
           [IV.fsl none false (nat_lit 1) xs, IV.fsl none false (nat_lit 1) ys, IV.bool false, IV.int IntKind.i64 i] [])) := by kernel_rfl
end Go.Proofs.Ytfcedalbamafiaa
