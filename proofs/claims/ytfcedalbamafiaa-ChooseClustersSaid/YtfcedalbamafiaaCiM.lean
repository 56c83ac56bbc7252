/- The document's Region and Survive: what the given program does. It bears no condition. -/
import Derived.Test.YtfcedalbamafiaaCiL
-- BYTES bytsM9
-- SUB (b0 : Bool)  => 
-- SUB cstF b0 => oneF (itV (gs l) (rs l) 0) []
-- SUB bif b0 => bif sameS (itV (gs l) (rs l) 0) []
namespace Go.Proofs.Ytfcedalbamafiaa
open Go Go.Im
set_option linter.unusedVariables false
set_option linter.unusedSimpArgs false
theorem re_big (nl : Option Bool) (cl : Bool) (l : List IV) (c : Nat → List IV → Bool) (g : List IV → Int → Int) : callK Try.prog hint (tab [(18, covP c g)]) (ltab [(15, 58, noL)]) 30 15 [.fsl nl cl 3 l] [] (fun v T => some (v, T)) =
    bif decide ((l.length : Int) > (64 : Int)) then some (.tup [.int .i64 0, .int .i64 0, .int .i64 1], []) else none := by kernel_rfl
theorem re_bad (nl : Option Bool) (cl : Bool) (l : List IV) (i : Int) (c : Nat → List IV → Bool) (g : List IV → Int → Int) : callK Try.prog hint (tab [(18, covP c g)]) (ltab [(15, 58, LF 15 0 (oneF (reV nl cl l 0 0) [] .ret (reV nl cl l 1 i) []))]) 30 15 [.fsl nl cl 3 l] [] (fun v T => some (v, T)) =
    bif decide ((l.length : Int) > (64 : Int)) then some (.tup [.int .i64 0, .int .i64 0, .int .i64 1], []) else bif sameS (reV nl cl l 0 0) [] then some (.tup [.int .i64 0, .int .i64 0, .int .i64 1], []) else none := by kernel_rfl
theorem re_call (nl : Option Bool) (cl : Bool) (l : List IV) (lo hi : Int) (f : Bool) (i : Int) (c : Nat → List IV → Bool) (g : List IV → Int → Int) : callK Try.prog hint (tab [(18, covP c g)]) (ltab [(15, 58, LF 15 0 (oneF (reV nl cl l 0 0) [] (.exit 0) (reV nl cl l 0 (l.length : Int)) [])), (15, 250, LF 15 0 (oneF (rfV nl cl l 0 0 false 0) [] (.exit 2) (rfV nl cl l lo hi f i) []))]) 30 15 [.fsl nl cl 3 l] [] (fun v T => some (v, T)) =
    bif decide ((l.length : Int) > (64 : Int)) then some (.tup [.int .i64 0, .int .i64 0, .int .i64 1], []) else bif sameS (reV nl cl l 0 0) [] then bif sameS (rfV nl cl l 0 0 false 0) [] then rgR f lo hi else none else none := by kernel_rfl
abbrev rsV (nl : Option Bool) (cl : Bool) (l : List IV) (lo hi e i : Int) : List IV := [.fsl nl cl 3 l, .int .i64 lo, .int .i64 hi, .int .i64 e, .osl 0 0, .int .i64 i]
theorem rs_in (sp : FuncId → Option SpecF) (nl : Option Bool) (cl : Bool) (l out : List IV) (lo hi e i : Int) : Rd sp 17 250 (Sx 17 (rsV nl cl l lo hi e i) [.row 0 false 1 out]) =
  (bif decide (i < (↑l.length : Int)) then
     bif decide ((3 : Nat) = (3 : Nat) ∧ (0 : Int) ≤ i ∧ i < (↑l.length : Int)) then
       bif isOf (LT.i IntKind.i64) (nthD (List.drop (1 : Nat) (nthD l i.toNat).cells) (0 : Nat)) then
         bif decide (lo ≤ Im.intOf (nthD (List.drop (1 : Nat) (nthD l i.toNat).cells) (0 : Nat))) == true then
           bif decide ((3 : Nat) = (3 : Nat) ∧ (0 : Int) ≤ i ∧ i < (↑l.length : Int)) then
             bif isOf (LT.i IntKind.i64) (nthD (List.drop (1 : Nat) (nthD l i.toNat).cells) (0 : Nat)) then
               bif
                   bif true then decide (Im.intOf (nthD (List.drop (1 : Nat) (nthD l i.toNat).cells) (0 : Nat)) ≤ hi)
                   else false then
                 bif
                     decide
                       ((out.length + [IV.int IntKind.i64 i].length) * (8 : Nat) ≤ roomB ∧
                         out.length + [IV.int IntKind.i64 i].length ≤ maxLen) then
                   some
                     (Ex.normal,
                       Sx (17 : Nat)
                         [IV.fsl nl cl (nat_lit 3) l, IV.int IntKind.i64 lo, IV.int IntKind.i64 hi, IV.int IntKind.i64 e,
                           IV.osl (nat_lit 0) (nat_lit 0), IV.int IntKind.i64 (IntKind.i64.wrap (i + (1 : Int)))]
                         [Blk.row (nat_lit 0) false (nat_lit 1) (out ++ [IV.int IntKind.i64 i])])
                 else none
               else
                 some
                   (Ex.normal,
                     Sx (17 : Nat)
                       [IV.fsl nl cl (nat_lit 3) l, IV.int IntKind.i64 lo, IV.int IntKind.i64 hi, IV.int IntKind.i64 e,
                         IV.osl (nat_lit 0) (nat_lit 0), IV.int IntKind.i64 (IntKind.i64.wrap (i + (1 : Int)))]
                       [Blk.row (nat_lit 0) false (nat_lit 1) out])
             else none
           else none
         else
           some
             (Ex.normal,
               Sx (17 : Nat)
                 [IV.fsl nl cl (nat_lit 3) l, IV.int IntKind.i64 lo, IV.int IntKind.i64 hi, IV.int IntKind.i64 e,
                   IV.osl (nat_lit 0) (nat_lit 0), IV.int IntKind.i64 (IntKind.i64.wrap (i + (1 : Int)))]
                 [Blk.row (nat_lit 0) false (nat_lit 1) out])
       else none
     else none
   else
     some
       (Ex.exit (nat_lit 0),
         Sx (17 : Nat)
           [IV.fsl nl cl (nat_lit 3) l, IV.int IntKind.i64 lo, IV.int IntKind.i64 hi, IV.int IntKind.i64 e,
             IV.osl (nat_lit 0) (nat_lit 0), IV.int IntKind.i64 i]
           [Blk.row (nat_lit 0) false (nat_lit 1) out])) := by kernel_rfl
theorem rs_call (nl : Option Bool) (cl : Bool) (l out : List IV) (c : Nat → List IV → Bool) (lo hi co : List IV → Int) : callK Try.prog hint (tab [(15, rgP c lo hi co)]) (ltab [(17, 250, LF 17 0 (oneF (rsV nl cl l (lo l) (hi l) (co l) 0) [.row 0 false 1 []] (.exit 0) (rsV nl cl l (lo l) (hi l) (co l) (l.length : Int)) [.row 0 false 1 out]))]) 30 17 [.fsl nl cl 3 l] [] (fun v T => some (v, T)) =
    bif c 3 l then bif co l != (0 : Int) then some (.tup [.fsl (some true) true 0 [], .int .i64 (co l)], []) else
      bif sameS (rsV nl cl l (lo l) (hi l) (co l) 0) [.row 0 false 1 []] then some (.tup [.osl 0 0, .int .i64 (co l)], [.row 0 false 1 out]) else none else none := by kernel_rfl
abbrev itV (xs ys : List IV) (i : Int) : List IV := [.fsl none false 1 xs, .fsl none false 1 ys, .bool false, .int .i64 i]
def itP (c : List IV → List IV → Bool) (g : List IV → List IV → Bool) : SpecF := fun xs T => match xs, T with
  | [.fsl none false 1 l, .fsl none false 1 m], [] => [(c l m, .bool (g l m), [])]
  | _, _ => []
abbrev tabR (c c' : Nat → List IV → Bool) (lo hi co lo' hi' co' : List IV → Int) (gs gs' : List IV → List IV) (g g' : List IV → Int → Int) (ci gi : List IV → List IV → Bool) : FuncId → Option SpecF := tab [(10, constF (.bool true)), (11, rgP c lo hi co), (12, covP c g), (15, rgP c lo' hi' co'), (16, svP c' gs co), (17, svP c' gs' co'), (18, covP c g'), (19, itP ci gi)]
theorem rg_law (nl : Option Bool) (cl : Bool) (l : List IV) (x : Int) (c c' : Nat → List IV → Bool) (lo hi co lo' hi' co' : List IV → Int) (gs gs' : List IV → List IV) (g g' : List IV → Int → Int) (ci gi : List IV → List IV → Bool) : C (tabR c c' lo hi co lo' hi' co' gs gs' g g' ci gi) 6 [.fsl nl cl 3 l, .int .i64 x] =
  (bif decide ((↑l.length : Int) > (200 : Int)) then some (IV.bool true, [])
   else
     bif c (3 : Nat) l then
       bif c (3 : Nat) l then
         bif c' (3 : Nat) l then
           bif c' (3 : Nat) l then
             bif c (3 : Nat) l then
               bif c (3 : Nat) l then
                 bif
                     (bif
                           bif bif bif true then g l x == g' l x else false then lo l == lo' l else false then
                             hi l == hi' l
                           else false then
                         co l == co' l
                       else false) ==
                       true then
                   bif ci (gs l) (gs' l) then
                     some (IV.bool (bif bif true then gi (gs l) (gs' l) else false then co l == co' l else false), [])
                   else none
                 else some (IV.bool false, [])
               else none
             else none
           else none
         else none
       else none
     else none) := by kernel_rfl
end Go.Proofs.Ytfcedalbamafiaa
