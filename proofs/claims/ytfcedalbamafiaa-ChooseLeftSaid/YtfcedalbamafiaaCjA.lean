/- ChooseClusters and ChooseLeft: the laws' own rounds and calls. It bears no condition. -/
import Derived.Test.YtfcedalbamafiaaCiW
-- BYTES bytsJA
namespace Go.Proofs.Ytfcedalbamafiaa
open Go Go.Im
set_option linter.unusedVariables false
set_option linter.unusedSimpArgs false
abbrev tabL (cc : List IV → List IV → Bool) (gs gs' : List IV → List IV → Int → List IV) (ec ec' : List IV → List IV → Int → Int) (vc vc' ve ve' : List IV → List IV → Int) (ci gi : List IV → List IV → Bool) : FuncId → Option SpecF := tab [(10, constF (.bool true)), (13, coP cc vc ve), (19, itP ci gi), (20, clP cc gs ec), (21, clP cc gs' ec'), (22, coP cc vc' ve')]
theorem cl_law (nl : Option Bool) (cl : Bool) (xs : List IV) (nl' : Option Bool) (cl' : Bool) (ys : List IV) (least : Int) (cc : List IV → List IV → Bool) (gs gs' : List IV → List IV → Int → List IV) (ec ec' : List IV → List IV → Int → Int) (vc vc' ve ve' : List IV → List IV → Int) (ci gi : List IV → List IV → Bool) : C (tabL cc gs gs' ec ec' vc vc' ve ve' ci gi) 8 [.fsl nl cl 1 xs, .fsl nl' cl' 1 ys, .int .i64 least] =
  (bif
       bif bif decide ((↑xs.length : Int) > (200 : Int)) then true else decide ((↑ys.length : Int) > (200 : Int)) then true
       else bif decide ((↑xs.length : Int) > (24 : Int)) then decide ((↑xs.length : Int) ≤ (64 : Int)) else false then
     some (IV.bool true, [])
   else
     bif cc xs ys then
       bif cc xs ys then
         bif cc xs ys then
           bif cc xs ys then
             bif ci (gs xs ys least) (gs' xs ys least) then
               some
                 (IV.bool
                     (bif
                         bif
                             bif bif true then gi (gs xs ys least) (gs' xs ys least) else false then
                               ec xs ys least == ec' xs ys least
                             else false then
                           vc xs ys == vc' xs ys
                         else false then
                       ve xs ys == ve' xs ys
                     else false),
                   [])
             else none
           else none
         else none
       else none
     else none) := by kernel_rfl
abbrev tabN (cc : List IV → List IV → Bool) (gs : List IV → List IV → Int → List IV) (ec : List IV → List IV → Int → Int) (ci gi : List IV → List IV → Bool) : FuncId → Option SpecF := tab [(10, constF (.bool true)), (19, itP ci gi), (20, clP cc gs ec)]
abbrev lfV (nl : Option Bool) (cl : Bool) (xs : List IV) (nl' : Option Bool) (cl' : Bool) (ys : List IV) (least : Int) (l : List IV) (i : Int) : List IV := [.fsl nl cl 1 xs, .fsl nl' cl' 1 ys, .int .i64 least, .bool false, .fsl none false 1 l, .int .i64 i, .undef, .undef, .undef]
abbrev lfN (nl : Option Bool) (cl : Bool) (xs : List IV) (nl' : Option Bool) (cl' : Bool) (ys : List IV) (least : Int) (l : List IV) (want k : Int) : List IV := [.fsl nl cl 1 xs, .fsl nl' cl' 1 ys, .int .i64 least, .bool false, .fsl none false 1 l, .int .i64 (l.length : Int), .int .i64 want, .osl 0 0, .int .i64 k]
theorem lf_chk (sp : FuncId → Option SpecF) (nl : Option Bool) (cl : Bool) (xs : List IV) (nl' : Option Bool) (cl' : Bool) (ys l : List IV) (least i : Int) : Rd sp 9 250 (Sx 9 (lfV nl cl xs nl' cl' ys least l i) []) =
  (bif decide (i < (↑l.length : Int)) then
     bif decide ((1 : Nat) = (1 : Nat) ∧ (0 : Int) ≤ i ∧ i < (↑l.length : Int)) then
       bif isOf (LT.i IntKind.i64) (nthD (nthD l i.toNat).cells (0 : Nat)) then
         bif decide (Im.intOf (nthD (nthD l i.toNat).cells (0 : Nat)) < (0 : Int)) == false then
           bif decide ((1 : Nat) = (1 : Nat) ∧ (0 : Int) ≤ i ∧ i < (↑l.length : Int)) then
             bif isOf (LT.i IntKind.i64) (nthD (nthD l i.toNat).cells (0 : Nat)) then
               bif
                   (bif false then true
                       else decide (Im.intOf (nthD (nthD l i.toNat).cells (0 : Nat)) ≥ (↑xs.length : Int))) ==
                       false &&
                     decide (i > (0 : Int)) == true then
                 bif decide ((1 : Nat) = (1 : Nat) ∧ (0 : Int) ≤ i ∧ i < (↑l.length : Int)) then
                   bif isOf (LT.i IntKind.i64) (nthD (nthD l i.toNat).cells (0 : Nat)) then
                     bif
                         decide
                           ((1 : Nat) = (1 : Nat) ∧
                             (0 : Int) ≤ IntKind.i64.wrap (i - (1 : Int)) ∧
                               IntKind.i64.wrap (i - (1 : Int)) < (↑l.length : Int)) then
                       bif
                           isOf (LT.i IntKind.i64)
                             (nthD (nthD l (IntKind.i64.wrap (i - (1 : Int))).toNat).cells (0 : Nat)) then
                         bif
                             bif
                                 bif false then true
                                 else decide (Im.intOf (nthD (nthD l i.toNat).cells (0 : Nat)) ≥ (↑xs.length : Int)) then
                               true
                             else
                               bif true then
                                 decide
                                   (Im.intOf (nthD (nthD l i.toNat).cells (0 : Nat)) ≤
                                     Im.intOf (nthD (nthD l (IntKind.i64.wrap (i - (1 : Int))).toNat).cells (0 : Nat)))
                               else false then
                           some
                             (Ex.ret,
                               Sx (9 : Nat)
                                 [IV.fsl nl cl (nat_lit 1) xs, IV.fsl nl' cl' (nat_lit 1) ys, IV.int IntKind.i64 least,
                                   IV.bool false, IV.fsl none false (nat_lit 1) l, IV.int IntKind.i64 i, IV.undef,
                                   IV.undef, IV.undef]
                                 [])
                         else
                           some
                             (Ex.normal,
                               Sx (9 : Nat)
                                 [IV.fsl nl cl (nat_lit 1) xs, IV.fsl nl' cl' (nat_lit 1) ys, IV.int IntKind.i64 least,
                                   IV.bool false, IV.fsl none false (nat_lit 1) l,
                                   IV.int IntKind.i64 (IntKind.i64.wrap (i + (1 : Int))), IV.undef, IV.undef, IV.undef]
                                 [])
                       else none
                     else none
                   else none
                 else none
               else
                 bif
                     (bif false then true
                         else decide (Im.intOf (nthD (nthD l i.toNat).cells (0 : Nat)) ≥ (↑xs.length : Int))) ==
                         false &&
                       decide (i > (0 : Int)) == true then
                   none
                 else
                   bif
                       (bif false then true
                           else decide (Im.intOf (nthD (nthD l i.toNat).cells (0 : Nat)) ≥ (↑xs.length : Int))) ==
                           false &&
                         decide (i > (0 : Int)) == true then
                     bif
                         decide
                           ((1 : Nat) = (1 : Nat) ∧
                             (0 : Int) ≤ IntKind.i64.wrap (i - (1 : Int)) ∧
                               IntKind.i64.wrap (i - (1 : Int)) < (↑l.length : Int)) then
                       bif
                           isOf (LT.i IntKind.i64)
                             (nthD (nthD l (IntKind.i64.wrap (i - (1 : Int))).toNat).cells (0 : Nat)) then
                         none
                       else none
                     else none
                   else
                     bif
                         (bif false then true
                             else decide (Im.intOf (nthD (nthD l i.toNat).cells (0 : Nat)) ≥ (↑xs.length : Int))) ==
                             false &&
                           decide (i > (0 : Int)) == true then
                       none
                     else
                       bif
                           (bif false then true
                               else decide (Im.intOf (nthD (nthD l i.toNat).cells (0 : Nat)) ≥ (↑xs.length : Int))) ==
                               false &&
                             decide (i > (0 : Int)) == true then
                         none
                       else
                         bif decide (i > (0 : Int)) then
                           bif
                               bif false then true
                               else decide (Im.intOf (nthD (nthD l i.toNat).cells (0 : Nat)) ≥ (↑xs.length : Int)) then
                             some
                               (Ex.ret,
                                 Sx (9 : Nat)
                                   [IV.fsl nl cl (nat_lit 1) xs, IV.fsl nl' cl' (nat_lit 1) ys, IV.int IntKind.i64 least,
                                     IV.bool false, IV.fsl none false (nat_lit 1) l, IV.int IntKind.i64 i, IV.undef,
                                     IV.undef, IV.undef]
                                   [])
                           else none
                         else
                           bif
                               bif
                                   bif false then true
                                   else decide (Im.intOf (nthD (nthD l i.toNat).cells (0 : Nat)) ≥ (↑xs.length : Int)) then
                                 true
                               else false then
                             some
                               (Ex.ret,
                                 Sx (9 : Nat)
                                   [IV.fsl nl cl (nat_lit 1) xs, IV.fsl nl' cl' (nat_lit 1) ys, IV.int IntKind.i64 least,
                                     IV.bool false, IV.fsl none false (nat_lit 1) l, IV.int IntKind.i64 i, IV.undef,
                                     IV.undef, IV.undef]
                                   [])
                           else
                             some
                               (Ex.normal,
                                 Sx (9 : Nat)
                                   [IV.fsl nl cl (nat_lit 1) xs, IV.fsl nl' cl' (nat_lit 1) ys, IV.int IntKind.i64 least,
                                     IV.bool false, IV.fsl none false (nat_lit 1) l,
                                     IV.int IntKind.i64 (IntKind.i64.wrap (i + (1 : Int))), IV.undef, IV.undef, IV.undef]
                                   [])
             else none
           else none
         else
           bif decide (i > (0 : Int)) then
             some
               (Ex.ret,
                 Sx (9 : Nat)
                   [IV.fsl nl cl (nat_lit 1) xs, IV.fsl nl' cl' (nat_lit 1) ys, IV.int IntKind.i64 least, IV.bool false,
                     IV.fsl none false (nat_lit 1) l, IV.int IntKind.i64 i, IV.undef, IV.undef, IV.undef]
                   [])
           else
             some
               (Ex.ret,
                 Sx (9 : Nat)
                   [IV.fsl nl cl (nat_lit 1) xs, IV.fsl nl' cl' (nat_lit 1) ys, IV.int IntKind.i64 least, IV.bool false,
                     IV.fsl none false (nat_lit 1) l, IV.int IntKind.i64 i, IV.undef, IV.undef, IV.undef]
                   [])
       else none
     else none
   else
     some
       (Ex.exit (nat_lit 0),
         Sx (9 : Nat)
           [IV.fsl nl cl (nat_lit 1) xs, IV.fsl nl' cl' (nat_lit 1) ys, IV.int IntKind.i64 least, IV.bool false,
             IV.fsl none false (nat_lit 1) l, IV.int IntKind.i64 i, IV.undef, IV.undef, IV.undef]
           [])) := by kernel_rfl
theorem lf_neg (sp : FuncId → Option SpecF) (nl : Option Bool) (cl : Bool) (xs : List IV) (nl' : Option Bool) (cl' : Bool) (ys l m : List IV) (least want k : Int) : Rd sp 9 4090 (Sx 9 (lfN nl cl xs nl' cl' ys least l want k) [.row 0 false 1 m]) =
  (bif decide (k < (↑xs.length : Int)) then
     bif decide ((1 : Nat) = (1 : Nat) ∧ (0 : Int) ≤ k ∧ k < (↑xs.length : Int)) then
       bif isOf (LT.i IntKind.i64) (nthD (nthD xs k.toNat).cells (0 : Nat)) then
         bif
             decide
               ((m.length +
                       [IV.int IntKind.i64
                             (IntKind.i64.wrap ((0 : Int) - Im.intOf (nthD (nthD xs k.toNat).cells (0 : Nat))))].length) *
                     (8 : Nat) ≤
                   roomB ∧
                 m.length +
                     [IV.int IntKind.i64
                           (IntKind.i64.wrap ((0 : Int) - Im.intOf (nthD (nthD xs k.toNat).cells (0 : Nat))))].length ≤
                   maxLen) then
           some
             (Ex.normal,
               Sx (9 : Nat)
                 [IV.fsl nl cl (nat_lit 1) xs, IV.fsl nl' cl' (nat_lit 1) ys, IV.int IntKind.i64 least, IV.bool false,
                   IV.fsl none false (nat_lit 1) l, IV.int IntKind.i64 (↑l.length : Int), IV.int IntKind.i64 want,
                   IV.osl (nat_lit 0) (nat_lit 0), IV.int IntKind.i64 (IntKind.i64.wrap (k + (1 : Int)))]
                 [Blk.row (nat_lit 0) false (nat_lit 1)
                     (m ++
                       [IV.int IntKind.i64
                           (IntKind.i64.wrap ((0 : Int) - Im.intOf (nthD (nthD xs k.toNat).cells (0 : Nat))))])])
         else none
       else none
     else none
   else
     some
       (Ex.exit (nat_lit 2),
         Sx (9 : Nat)
           [IV.fsl nl cl (nat_lit 1) xs, IV.fsl nl' cl' (nat_lit 1) ys, IV.int IntKind.i64 least, IV.bool false,
             IV.fsl none false (nat_lit 1) l, IV.int IntKind.i64 (↑l.length : Int), IV.int IntKind.i64 want,
             IV.osl (nat_lit 0) (nat_lit 0), IV.int IntKind.i64 k]
           [Blk.row (nat_lit 0) false (nat_lit 1) m])) := by kernel_rfl
theorem lf_none (nl : Option Bool) (cl : Bool) (xs : List IV) (nl' : Option Bool) (cl' : Bool) (ys : List IV) (least : Int) (cc : List IV → List IV → Bool) (gs : List IV → List IV → Int → List IV) (ec : List IV → List IV → Int → Int) (ci gi : List IV → List IV → Bool) : callK Try.prog hint (tabN cc gs ec ci gi) (ltab [(9, 250, noL)]) 30 9 [.fsl nl cl 1 xs, .fsl nl' cl' 1 ys, .int .i64 least] [] (fun v T => some (v, T)) =
  (bif decide ((↑xs.length : Int) > (24 : Int)) then some (IV.bool true, [])
   else
     bif cc xs ys then
       bif ec xs ys least != (0 : Int) then
         some (IV.bool (bif true then (↑(gs xs ys least).length : Int) == (0 : Int) else false), [])
       else none
     else none) := by kernel_rfl
noncomputable abbrev matS (vs : List IV) (bx : List Blk) (vs0 : List IV) (bx0 : List Blk) : Bool := @decide (vs = vs0 ∧ bx = bx0) (Classical.propDecidable _)
abbrev lfT (cc : List IV → List IV → Bool) (gs : List IV → List IV → Int → List IV) (ec : List IV → List IV → Int → Int) (ci gi : List IV → List IV → Bool) (xs m ys : List IV) (least want : Int) : Option (IV × List Blk) :=
  bif cc m ys then bif (bif (bif true then decide (((gs xs ys least).length : Int) ≥ want) else false) then ec m ys least == (0 : Int) else false) == true then
    bif ci (gs xs ys least) (gs m ys least) then some (IV.bool (bif true then gi (gs xs ys least) (gs m ys least) else false), []) else none else some (IV.bool false, []) else none
noncomputable abbrev lfLs (nl : Option Bool) (cl : Bool) (xs : List IV) (nl' : Option Bool) (cl' : Bool) (ys l m : List IV) (least want : Int) : FuncId → Nat → Option LoopF := ltab [(9, 250, LF 9 0 (oneF (lfV nl cl xs nl' cl' ys least l 0) [] (.exit 0) (lfV nl cl xs nl' cl' ys least l (l.length : Int)) [])), (9, 4090, LF 9 0 (oneF (lfN nl cl xs nl' cl' ys least l want 0) [.row 0 false 1 []] (.exit 2) (lfN nl cl xs nl' cl' ys least l want (xs.length : Int)) [.row 0 false 1 m]))]
theorem lf_call (nl : Option Bool) (cl : Bool) (xs : List IV) (nl' : Option Bool) (cl' : Bool) (ys m : List IV) (least want : Int) (cc : List IV → List IV → Bool) (gs : List IV → List IV → Int → List IV) (ec : List IV → List IV → Int → Int) (ci gi : List IV → List IV → Bool) : callK Try.prog hint (tabN cc gs ec ci gi) (lfLs nl cl xs nl' cl' ys (gs xs ys least) m least want) 30 9 [.fsl nl cl 1 xs, .fsl nl' cl' 1 ys, .int .i64 least] [] (fun v T => some (v, T)) =
    bif decide ((xs.length : Int) > (24 : Int)) then some (IV.bool true, []) else
      bif cc xs ys then bif ec xs ys least != (0 : Int) then some (IV.bool (bif true then ((gs xs ys least).length : Int) == (0 : Int) else false), []) else
        bif sameS (lfV nl cl xs nl' cl' ys least (gs xs ys least) 0) [] then
          bif decide ((xs.length : Int) < least) then bif matS (lfN nl cl xs nl' cl' ys least (gs xs ys least) (xs.length : Int) 0) [.row 0 false 1 []] (lfN nl cl xs nl' cl' ys least (gs xs ys least) want 0) [.row 0 false 1 []] then lfT cc gs ec ci gi xs m ys least want else none
          else bif matS (lfN nl cl xs nl' cl' ys least (gs xs ys least) least 0) [.row 0 false 1 []] (lfN nl cl xs nl' cl' ys least (gs xs ys least) want 0) [.row 0 false 1 []] then lfT cc gs ec ci gi xs m ys least want else none
        else none else none := by kernel_rfl
end Go.Proofs.Ytfcedalbamafiaa
