/- What survives: what the given program does. It bears no condition. -/
import Derived.Test.YtfcedalbamafiaaCiC
-- BYTES bytsD9
-- SUB (b0 : Bool)  => 
-- SUB cstF b0 => oneF (onV at_ (gs l) (co l) false 0) []
-- SUB bif b0 => bif sameS (onV at_ (gs l) (co l) false 0) []
namespace Go.Proofs.Ytfcedalbamafiaa
open Go Go.Im
set_option linter.unusedVariables false
set_option linter.unusedSimpArgs false
def svP (c : Nat → List IV → Bool) (g : List IV → List IV) (co : List IV → Int) : SpecF := fun xs T => match xs, T with
  | [.fsl nl cl z l], [] => [(c z l, .tup [.fsl none false 1 (g l), .int .i64 (co l)], [])]
  | _, _ => []
abbrev svV (nl : Option Bool) (cl : Bool) (z : Nat) (l : List IV) (lo hi len i : Int) : List IV := [.int .i64 lo, .int .i64 hi, .osl 0 0, .fsl nl cl z l, .int .i64 len, .int .i64 i]
abbrev onV (at_ : Int) (ks : List IV) (e : Int) (b : Bool) (i : Int) : List IV := [.int .i64 at_, .fsl none false 1 ks, .int .i64 e, .bool b, .int .i64 i]
theorem sv_in (sp : FuncId → Option SpecF) (nl : Option Bool) (cl : Bool) (z : Nat) (l out : List IV) (lo hi len i : Int) : Rd sp 16 250 (Sx 16 (svV nl cl z l lo hi len i) [.row 0 false 1 out]) =
  (bif decide (i < len) then
     bif decide (z = (3 : Nat) ∧ (0 : Int) ≤ i ∧ i < (↑l.length : Int)) then
       bif
           testAll ([LT.i IntKind.i64] ++ ([LT.i IntKind.i64] ++ ([LT.i IntKind.i64] ++ []))) (0 : Nat)
             (nthD l i.toNat).cells then
         bif
             bif decide (Im.intOf (nthD (nthD l i.toNat).cells (1 : Nat)) ≥ lo) then
               decide (Im.intOf (nthD (nthD l i.toNat).cells (1 : Nat)) ≤ hi)
             else false then
           bif
               decide
                 ((out.length + [IV.int IntKind.i64 i].length) * (8 : Nat) ≤ roomB ∧
                   out.length + [IV.int IntKind.i64 i].length ≤ maxLen) then
             some
               (Ex.normal,
                 Sx (16 : Nat)
                   [IV.int IntKind.i64 lo, IV.int IntKind.i64 hi, IV.osl (nat_lit 0) (nat_lit 0), IV.fsl nl cl z l,
                     IV.int IntKind.i64 len, IV.int IntKind.i64 (IntKind.i64.wrap (i + (1 : Int)))]
                   [Blk.row (nat_lit 0) false (nat_lit 1) (out ++ [IV.int IntKind.i64 i])])
           else none
         else
           some
             (Ex.normal,
               Sx (16 : Nat)
                 [IV.int IntKind.i64 lo, IV.int IntKind.i64 hi, IV.osl (nat_lit 0) (nat_lit 0), IV.fsl nl cl z l,
                   IV.int IntKind.i64 len, IV.int IntKind.i64 (IntKind.i64.wrap (i + (1 : Int)))]
                 [Blk.row (nat_lit 0) false (nat_lit 1) out])
       else none
     else none
   else
     some
       (Ex.exit (nat_lit 0),
         Sx (16 : Nat)
           [IV.int IntKind.i64 lo, IV.int IntKind.i64 hi, IV.osl (nat_lit 0) (nat_lit 0), IV.fsl nl cl z l,
             IV.int IntKind.i64 len, IV.int IntKind.i64 i]
           [Blk.row (nat_lit 0) false (nat_lit 1) out])) := by kernel_rfl
theorem on_in (sp : FuncId → Option SpecF) (ks : List IV) (at_ e i : Int) (b : Bool) : Rd sp 7 506 (Sx 7 (onV at_ ks e b i) []) =
  (bif decide (i < (↑ks.length : Int)) then
     bif b == false then
       bif decide ((1 : Nat) = (1 : Nat) ∧ (0 : Int) ≤ i ∧ i < (↑ks.length : Int)) then
         bif isOf (LT.i IntKind.i64) (nthD (nthD ks i.toNat).cells (0 : Nat)) then
           some
             (Ex.normal,
               Sx (7 : Nat)
                 [IV.int IntKind.i64 at_, IV.fsl none false (nat_lit 1) ks, IV.int IntKind.i64 e,
                   IV.bool (bif false then true else Im.intOf (nthD (nthD ks i.toNat).cells (0 : Nat)) == at_),
                   IV.int IntKind.i64 (IntKind.i64.wrap (i + (1 : Int)))]
                 [])
         else none
       else none
     else
       some
         (Ex.normal,
           Sx (7 : Nat)
             [IV.int IntKind.i64 at_, IV.fsl none false (nat_lit 1) ks, IV.int IntKind.i64 e, IV.bool true,
               IV.int IntKind.i64 (IntKind.i64.wrap (i + (1 : Int)))]
             [])
   else
     some
       (Ex.exit (nat_lit 0),
         Sx (7 : Nat)
           [IV.int IntKind.i64 at_, IV.fsl none false (nat_lit 1) ks, IV.int IntKind.i64 e, IV.bool b,
             IV.int IntKind.i64 i]
           [])) := by kernel_rfl
abbrev tabK (c : Nat → List IV → Bool) (gs : List IV → List IV) (co : List IV → Int) (g : List IV → Int → Int) : FuncId → Option SpecF := tab [(10, constF (.bool true)), (12, covP c g), (16, svP c gs co)]
theorem on_none (nl : Option Bool) (cl : Bool) (z : Nat) (l : List IV) (at_ : Int) (c : Nat → List IV → Bool) (gs : List IV → List IV) (co : List IV → Int) (g : List IV → Int → Int) : callK Try.prog hint (tabK c gs co g) (ltab [(7, 506, noL)]) 30 7 [.fsl nl cl z l, .int .i64 at_] [] (fun v T => some (v, T)) =
  (bif
       bif bif decide ((↑l.length : Int) > (60 : Int)) then true else decide (at_ < (0 : Int)) then true
       else decide (at_ ≥ (↑l.length : Int)) then
     some (IV.bool true, [])
   else
     bif c z l then
       bif (co l == (1 : Int)) == false then
         bif decide (z = (3 : Nat) ∧ (0 : Int) ≤ at_ ∧ at_ < (↑l.length : Int)) then
           bif isOf (LT.i IntKind.i64) (nthD (List.drop (1 : Nat) (nthD l at_.toNat).cells) (0 : Nat)) then
             bif c z l then
               bif
                   bif false then true
                   else
                     decide
                       (IntKind.i64.wrap
                           ((2 : Int) * g l (Im.intOf (nthD (List.drop (1 : Nat) (nthD l at_.toNat).cells) (0 : Nat)))) ≤
                         (↑l.length : Int)) then
                 some (IV.bool true, [])
               else none
             else none
           else none
         else none
       else some (IV.bool true, [])
     else none) := by kernel_rfl
theorem on_tree (nl : Option Bool) (cl : Bool) (z : Nat) (l : List IV) (at_ : Int) (c : Nat → List IV → Bool) (gs : List IV → List IV) (co : List IV → Int) (g : List IV → Int → Int) (b : Bool) : callK Try.prog hint (tabK c gs co g) (ltab [(7, 506, LF 7 0 (oneF (onV at_ (gs l) (co l) false 0) [] (.exit 0) (onV at_ (gs l) (co l) b ((gs l).length : Int)) []))]) 30 7 [.fsl nl cl z l, .int .i64 at_] [] (fun v T => some (v, T)) =
  (bif
       bif bif decide ((↑l.length : Int) > (60 : Int)) then true else decide (at_ < (0 : Int)) then true
       else decide (at_ ≥ (↑l.length : Int)) then
     some (IV.bool true, [])
   else
     bif c z l then
       bif (co l == (1 : Int)) == false then
         bif decide (z = (3 : Nat) ∧ (0 : Int) ≤ at_ ∧ at_ < (↑l.length : Int)) then
           bif isOf (LT.i IntKind.i64) (nthD (List.drop (1 : Nat) (nthD l at_.toNat).cells) (0 : Nat)) then
             bif c z l then
               bif
                   bif false then true
                   else
                     decide
                       (IntKind.i64.wrap
                           ((2 : Int) * g l (Im.intOf (nthD (List.drop (1 : Nat) (nthD l at_.toNat).cells) (0 : Nat)))) ≤
                         (↑l.length : Int)) then
                 some (IV.bool true, [])
               else
                 bif sameS (onV at_ (gs l) (co l) false 0) [] then some (IV.bool (bif bif true then co l == (0 : Int) else false then b else false), [])
                 else none
             else none
           else none
         else none
       else some (IV.bool true, [])
     else none) := by kernel_rfl
theorem sv_call (nl : Option Bool) (cl : Bool) (z : Nat) (l out : List IV) (c : Nat → List IV → Bool) (lo hi co : List IV → Int) : callK Try.prog hint (tab [(11, rgP c lo hi co)]) (ltab [(16, 250, LF 16 0 (oneF (svV nl cl z l (lo l) (hi l) (l.length : Int) 0) [.row 0 false 1 []] (.exit 0) (svV nl cl z l (lo l) (hi l) (l.length : Int) (l.length : Int)) [.row 0 false 1 out]))]) 30 16 [.fsl nl cl z l] [] (fun v T => some (v, T)) =
    bif c z l then bif co l != (0 : Int) then some (.tup [.fsl (some true) true 0 [], .int .i64 (co l)], []) else
      bif sameS (svV nl cl z l (lo l) (hi l) (l.length : Int) 0) [.row 0 false 1 []] then some (.tup [.osl 0 0, .int .i64 0], [.row 0 false 1 out]) else none else none := by kernel_rfl
end Go.Proofs.Ytfcedalbamafiaa
