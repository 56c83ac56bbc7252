/- A log laid anew, how long it is, and what is alike: rounds and calls. It bears no condition. -/
import Derived.Test.YtgbddcdpbgaojaaAuN
-- BYTES bytsO
-- SUB (b0 : Bool)  => 
-- SUB (b0 : Bool) => 
-- SUB cstF b0 (.exit 0) (owV => oneF (owV nl cl l 0) [.row 0 false 5 []] (.exit 0) (owV
-- SUB bif b0 then some (IV.osl => bif sameS (owV nl cl l 0) [.row 0 false 5 []] then some (IV.osl
-- SUB cstF b0 (.exit 0) (loV => oneF (loV nl cl l false 0 0) [] (.exit 0) (loV
-- SUB cstF b0 .ret (loV => oneF (loV nl cl l false 0 0) [] .ret (loV
-- SUB bif b0 then some (IV.bool => bif sameS (loV nl cl l false 0 0) [] then some (IV.bool
namespace Go.Proofs.Ytgbddcdpbgaojaa
open Go Go.Im
set_option linter.unusedVariables false
set_option linter.unusedSimpArgs false
theorem join_tree (nl : Option Bool) (cl : Bool) (a : List IV) (nl' : Option Bool) (cl' : Bool) (b : List IV) : C (tab []) 22 [.fsl nl cl 1 a, .fsl nl' cl' 1 b] =
  (bif
       decide
         (((0 : Nat) = (1 : Nat) ∨ (0 : Nat) = (0 : Nat)) ∧
           ((0 : Nat) = (0 : Nat) ∨ (0 : Nat) < a.length) ∧
             ((0 : Nat) + a.length) * (1 : Nat) ≤ roomB ∧ (0 : Nat) + a.length ≤ maxLen) then
     bif decide ((([] ++ a).length + b.length) * (1 : Nat) ≤ roomB ∧ ([] ++ a).length + b.length ≤ maxLen) then
       some (IV.osl (nat_lit 0) (nat_lit 0), [Blk.row (nat_lit 0) false (nat_lit 1) ([] ++ a ++ b)])
     else none
   else none) := by kernel_rfl
theorem join_nil (nl : Option Bool) (cl : Bool) (a : List IV) : C (tab []) 22 [.fsl nl cl 1 a, .fsl (some true) true 0 []] =
  (bif
       decide
         (((0 : Nat) = (1 : Nat) ∨ (0 : Nat) = (0 : Nat)) ∧
           ((0 : Nat) = (0 : Nat) ∨ (0 : Nat) < a.length) ∧
             ((0 : Nat) + a.length) * (1 : Nat) ≤ roomB ∧ (0 : Nat) + a.length ≤ maxLen) then
     bif decide ((([] ++ a).length + (0 : Nat)) * (1 : Nat) ≤ roomB ∧ ([] ++ a).length + (0 : Nat) ≤ maxLen) then
       some (IV.osl (nat_lit 0) (nat_lit 0), [Blk.row (nat_lit 0) false (nat_lit 1) ([] ++ a ++ [])])
     else none
   else none) := by kernel_rfl
def joP (c : Nat → List IV → Bool) : SpecF := fun us T => match us, T with
  | [.fsl nl cl z a, .fsl (some true) true 0 []], [] => [(c z a, .fsl none false 1 a, [])]
  | _, _ => []
abbrev owV (nl : Option Bool) (cl : Bool) (l : List IV) (i : Int) : List IV := [.fsl nl cl 5 l, .osl 0 0, .int .i64 i]
theorem own_in (c : Nat → List IV → Bool) (nl : Option Bool) (cl : Bool) (l out : List IV) (i : Int) : Rd (tab [(22, joP c)]) 0 12 58 (Sx 12 (owV nl cl l i) [.row 0 false 5 out]) =
  (bif decide (i < (↑l.length : Int)) then
     bif decide ((5 : Nat) = (5 : Nat) ∧ (0 : Int) ≤ i ∧ i < (↑l.length : Int)) then
       bif
           testAll
             ([LT.i IntKind.i64] ++
               ([LT.i IntKind.u32] ++ ([LT.i IntKind.u32] ++ ([LT.i IntKind.i64] ++ ([LT.sl] ++ [])))))
             (0 : Nat) (nthD l i.toNat).cells then
         bif c (szOf (nthD (nthD l i.toNat).cells (4 : Nat))) (rowL (nthD (nthD l i.toNat).cells (4 : Nat))) then
           bif
               decide
                 ((out.length +
                         [IV.agg
                               [IV.int IntKind.i64 (intOf (nthD (nthD l i.toNat).cells (0 : Nat))),
                                 IV.int IntKind.u32 (intOf (nthD (nthD l i.toNat).cells (1 : Nat))),
                                 IV.int IntKind.u32 (intOf (nthD (nthD l i.toNat).cells (2 : Nat))),
                                 IV.int IntKind.i64 (intOf (nthD (nthD l i.toNat).cells (3 : Nat))),
                                 IV.fsl none false (1 : Nat) (rowL (nthD (nthD l i.toNat).cells (4 : Nat)))]].length) *
                       (48 : Nat) ≤
                     roomB ∧
                   out.length +
                       [IV.agg
                             [IV.int IntKind.i64 (intOf (nthD (nthD l i.toNat).cells (0 : Nat))),
                               IV.int IntKind.u32 (intOf (nthD (nthD l i.toNat).cells (1 : Nat))),
                               IV.int IntKind.u32 (intOf (nthD (nthD l i.toNat).cells (2 : Nat))),
                               IV.int IntKind.i64 (intOf (nthD (nthD l i.toNat).cells (3 : Nat))),
                               IV.fsl none false (1 : Nat) (rowL (nthD (nthD l i.toNat).cells (4 : Nat)))]].length ≤
                     maxLen) then
             some
               (Ex.normal,
                 Sx (12 : Nat)
                   [IV.fsl nl cl (nat_lit 5) l, IV.osl (nat_lit 0) (nat_lit 0),
                     IV.int IntKind.i64 (IntKind.i64.wrap (i + (1 : Int)))]
                   [Blk.row (nat_lit 0) false (nat_lit 5)
                       (out ++
                         [IV.agg
                             [IV.int IntKind.i64 (intOf (nthD (nthD l i.toNat).cells (0 : Nat))),
                               IV.int IntKind.u32 (intOf (nthD (nthD l i.toNat).cells (1 : Nat))),
                               IV.int IntKind.u32 (intOf (nthD (nthD l i.toNat).cells (2 : Nat))),
                               IV.int IntKind.i64 (intOf (nthD (nthD l i.toNat).cells (3 : Nat))),
                               IV.fsl none false (1 : Nat) (rowL (nthD (nthD l i.toNat).cells (4 : Nat)))]])])
           else none
         else none
       else none
     else none
   else
     some
       (Ex.exit (nat_lit 0),
         Sx (12 : Nat) [IV.fsl nl cl (nat_lit 5) l, IV.osl (nat_lit 0) (nat_lit 0), IV.int IntKind.i64 i]
           [Blk.row (nat_lit 0) false (nat_lit 5) out])) := by kernel_rfl
theorem own_call (c : Nat → List IV → Bool) (nl : Option Bool) (cl : Bool) (l out : List IV) : Cb (tab [(22, joP c)]) (ltab [(12, 58, LF 12 0 (oneF (owV nl cl l 0) [.row 0 false 5 []] (.exit 0) (owV nl cl l (l.length : Int)) [.row 0 false 5 out]))]) 12 [.fsl nl cl 5 l] [] =
  (bif sameS (owV nl cl l 0) [.row 0 false 5 []] then some (IV.osl (nat_lit 0) (nat_lit 0), [Blk.row (nat_lit 0) false (nat_lit 5) out]) else none) := by kernel_rfl
abbrev loV (nl : Option Bool) (cl : Bool) (l : List IV) (b : Bool) (n i : Int) : List IV := [.fsl nl cl 5 l, .bool b, .int .i64 n, .int .i64 i]
theorem lo_in (nl : Option Bool) (cl : Bool) (l : List IV) (n i : Int) : Rd (tab []) 0 9 122 (Sx 9 (loV nl cl l false n i) []) =
  (bif decide (i < (↑l.length : Int)) then
     bif decide ((5 : Nat) = (5 : Nat) ∧ (0 : Int) ≤ i ∧ i < (↑l.length : Int)) then
       bif isOf LT.sl (nthD (List.drop (4 : Nat) (nthD l i.toNat).cells) (0 : Nat)) then
         bif
             decide
               (IntKind.i64.wrap
                   (n + (↑(rowL (nthD (List.drop (4 : Nat) (nthD l i.toNat).cells) (0 : Nat))).length : Int)) >
                 (8000 : Int)) then
           some
             (Ex.ret,
               Sx (9 : Nat)
                 [IV.fsl nl cl (nat_lit 5) l, IV.bool true,
                   IV.int IntKind.i64
                     (IntKind.i64.wrap
                       (n + (↑(rowL (nthD (List.drop (4 : Nat) (nthD l i.toNat).cells) (0 : Nat))).length : Int))),
                   IV.int IntKind.i64 i]
                 [])
         else
           some
             (Ex.normal,
               Sx (9 : Nat)
                 [IV.fsl nl cl (nat_lit 5) l, IV.bool false,
                   IV.int IntKind.i64
                     (IntKind.i64.wrap
                       (n + (↑(rowL (nthD (List.drop (4 : Nat) (nthD l i.toNat).cells) (0 : Nat))).length : Int))),
                   IV.int IntKind.i64 (IntKind.i64.wrap (i + (1 : Int)))]
                 [])
       else none
     else none
   else
     some
       (Ex.exit (nat_lit 0),
         Sx (9 : Nat) [IV.fsl nl cl (nat_lit 5) l, IV.bool false, IV.int IntKind.i64 n, IV.int IntKind.i64 i] [])) := by kernel_rfl
theorem lo_none (nl : Option Bool) (cl : Bool) (l : List IV) : Cb (tab []) (ltab [(9, 122, noL)]) 9 [.fsl nl cl 5 l] [] =
  (bif decide ((↑l.length : Int) > (50 : Int)) then some (IV.bool true, []) else none) := by kernel_rfl
theorem lo_no (nl : Option Bool) (cl : Bool) (l : List IV) (n : Int) : Cb (tab []) (ltab [(9, 122, LF 9 0 (oneF (loV nl cl l false 0 0) [] (.exit 0) (loV nl cl l false n (l.length : Int)) []))]) 9 [.fsl nl cl 5 l] [] =
  (bif decide ((↑l.length : Int) > (50 : Int)) then some (IV.bool true, [])
   else bif sameS (loV nl cl l false 0 0) [] then some (IV.bool false, []) else none) := by kernel_rfl
theorem lo_yes (nl : Option Bool) (cl : Bool) (l : List IV) (n i : Int) : Cb (tab []) (ltab [(9, 122, LF 9 0 (oneF (loV nl cl l false 0 0) [] .ret (loV nl cl l true n i) []))]) 9 [.fsl nl cl 5 l] [] =
  (bif decide ((↑l.length : Int) > (50 : Int)) then some (IV.bool true, [])
   else bif sameS (loV nl cl l false 0 0) [] then some (IV.bool true, []) else none) := by kernel_rfl
theorem alike_tree (k h p a k' h' p' a' : Int) (nl nl' : Option Bool) (cl cl' : Bool) (b b' : List IV) : C (tab []) 20 [.agg [.int .i64 k, .int .u32 h, .int .u32 p, .int .i64 a, .fsl nl cl 1 b], .agg [.int .i64 k', .int .u32 h', .int .u32 p', .int .i64 a', .fsl nl' cl' 1 b']] =
  (bif decide ((1 : Nat) = (1 : Nat) ∨ b.length = (0 : Nat)) && isBytes b then
     bif decide ((1 : Nat) = (1 : Nat) ∨ b'.length = (0 : Nat)) && isBytes b' then
       some
         (IV.bool
             (bif
                 bif bif bif k == (1 : Int) then k' == (3 : Int) else false then h == p' else false then p == h'
                 else false then
               toBytes b == toBytes b'
             else false),
           [])
     else none
   else none) := by kernel_rfl
end Go.Proofs.Ytgbddcdpbgaojaa
