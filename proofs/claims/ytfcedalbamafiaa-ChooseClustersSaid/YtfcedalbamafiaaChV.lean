/- Intervals: what the given program does. It bears no condition. -/
import Derived.Test.YtfcedalbamafiaaChU
-- BYTES bytsV
namespace Go.Proofs.Ytfcedalbamafiaa
open Go Go.Im
set_option linter.unusedVariables false
set_option linter.unusedSimpArgs false
/-- A contract on a row of intervals and a point. -/
def covP (c : Nat → List IV → Bool) (g : List IV → Int → Int) : SpecF := fun xs T => match xs, T with
  | [.fsl nl cl z l, .int .i64 x], [] => [(c z l, .int .i64 (g l x), [])]
  | _, _ => []
/-- Has a row an interval that is none? -/
def cfP (c : Nat → List IV → Bool) (g : List IV → Bool) : SpecF := fun xs T => match xs, T with
  | [.fsl nl cl z l, .fn 24 []], [] => [(c z l, .bool (g l), [])]
  | _, _ => []
theorem cov_in (nl : Option Bool) (cl : Bool) (z : Nat) (l : List IV) (x n len i : Int) : Rd (tab []) 12 58 (Sx 12 [.int .i64 x, .int .i64 n, .fsl nl cl z l, .int .i64 len, .int .i64 i] []) =
  (bif decide (i < len) then
     bif decide (z = (3 : Nat) ∧ (0 : Int) ≤ i ∧ i < (↑l.length : Int)) then
       bif
           testAll ([LT.i IntKind.i64] ++ ([LT.i IntKind.i64] ++ ([LT.i IntKind.i64] ++ []))) (0 : Nat)
             (nthD l i.toNat).cells then
         bif
             bif decide (Im.intOf (nthD (nthD l i.toNat).cells (0 : Nat)) ≤ x) then
               decide (x ≤ Im.intOf (nthD (nthD l i.toNat).cells (2 : Nat)))
             else false then
           some
             (Ex.normal,
               Sx (12 : Nat)
                 [IV.int IntKind.i64 x, IV.int IntKind.i64 (IntKind.i64.wrap (n + (1 : Int))), IV.fsl nl cl z l,
                   IV.int IntKind.i64 len, IV.int IntKind.i64 (IntKind.i64.wrap (i + (1 : Int)))]
                 [])
         else
           some
             (Ex.normal,
               Sx (12 : Nat)
                 [IV.int IntKind.i64 x, IV.int IntKind.i64 n, IV.fsl nl cl z l, IV.int IntKind.i64 len,
                   IV.int IntKind.i64 (IntKind.i64.wrap (i + (1 : Int)))]
                 [])
       else none
     else none
   else
     some
       (Ex.exit (nat_lit 0),
         Sx (12 : Nat)
           [IV.int IntKind.i64 x, IV.int IntKind.i64 n, IV.fsl nl cl z l, IV.int IntKind.i64 len, IV.int IntKind.i64 i] [])) := by kernel_rfl
theorem ix_in (nl : Option Bool) (cl : Bool) (z : Nat) (l : List IV) (len i : Int) : Rd (tab []) 33 26 (Sx 33 [.fsl nl cl z l, .fn 24 [], .int .i64 0, .int .i64 len, .int .i64 i] []) =
  (bif decide (i < len) then
     bif decide (z = (3 : Nat) ∧ (0 : Int) ≤ i ∧ i < (↑l.length : Int)) then
       bif
           testAll ([LT.i IntKind.i64] ++ ([LT.i IntKind.i64] ++ ([LT.i IntKind.i64] ++ []))) (0 : Nat)
             (nthD l i.toNat).cells then
         bif
             bif
                 decide
                   (Im.intOf (nthD (nthD l i.toNat).cells (0 : Nat)) >
                     Im.intOf (nthD (nthD l i.toNat).cells (1 : Nat))) then
               true
             else
               decide
                 (Im.intOf (nthD (nthD l i.toNat).cells (1 : Nat)) > Im.intOf (nthD (nthD l i.toNat).cells (2 : Nat))) then
           some
             (Ex.ret,
               Sx (33 : Nat)
                 [IV.fsl nl cl z l, IV.fn (nat_lit 24) [], IV.int IntKind.i64 i, IV.int IntKind.i64 len,
                   IV.int IntKind.i64 i]
                 [])
         else
           some
             (Ex.normal,
               Sx (33 : Nat)
                 [IV.fsl nl cl z l, IV.fn (nat_lit 24) [], IV.int IntKind.i64 (0 : Int), IV.int IntKind.i64 len,
                   IV.int IntKind.i64 (IntKind.i64.wrap (i + (1 : Int)))]
                 [])
       else none
     else none
   else
     some
       (Ex.exit (nat_lit 0),
         Sx (33 : Nat)
           [IV.fsl nl cl z l, IV.fn (nat_lit 24) [], IV.int IntKind.i64 (0 : Int), IV.int IntKind.i64 len,
             IV.int IntKind.i64 i]
           [])) := by kernel_rfl
theorem rg_hd (nl : Option Bool) (cl : Bool) (z : Nat) (l : List IV) (c : Nat → List IV → Bool) (g : List IV → Bool) : Hd (tab [(23, cfP c g), (25, sortP)]) 11 122 [.fsl nl cl z l] =
  (bif decide ((↑l.length : Int) > (64 : Int)) == false then
     bif c z l then
       bif bif false then true else g l then
         some
           (Ex.ret,
             {
               tm :=
                 [IV.fsl nl cl z l, IV.undef, IV.int IntKind.i64 (0 : Int), IV.int IntKind.i64 (0 : Int),
                   IV.int IntKind.i64 (1 : Int)] ++ U 9 ++ [ IV.fsl nl cl z l, IV.int IntKind.i64 (↑l.length : Int),
                   IV.bool (decide ((↑l.length : Int) > (64 : Int))), IV.bool false, IV.undef, IV.bool (g l), IV.bool true] ++ U 54,
               bx := [] })
       else
         some
           (Ex.exit (nat_lit 424242),
             Sx (11 : Nat)
               [IV.fsl nl cl z l, IV.osl (nat_lit 0) (nat_lit 0), IV.undef, IV.undef, IV.undef, IV.undef, IV.fsl nl cl z l,
                 IV.int IntKind.i64 (↑l.length : Int), IV.int IntKind.i64 (0 : Int), IV.undef, IV.undef, IV.undef]
               [Blk.row (nat_lit 0) false (nat_lit 2) []])
     else none
   else
     some
       (Ex.ret,
         {
           tm :=
             [IV.fsl nl cl z l, IV.undef, IV.int IntKind.i64 (0 : Int), IV.int IntKind.i64 (0 : Int),
               IV.int IntKind.i64 (1 : Int)] ++ U 9 ++ [ IV.fsl nl cl z l, IV.int IntKind.i64 (↑l.length : Int),
               IV.bool (decide ((↑l.length : Int) > (64 : Int))), IV.bool true, IV.undef, IV.tup [], IV.bool true] ++ U 54,
           bx := [] })) := by kernel_rfl
theorem rg_in1 (sp : FuncId → Option SpecF) (nl : Option Bool) (cl : Bool) (z : Nat) (l es : List IV) (len i : Int) : Rd sp 11 122 (Sx 11 [.fsl nl cl z l, .osl 0 0, .undef, .undef, .undef, .undef, .fsl nl cl z l, .int .i64 len, .int .i64 i, .undef, .undef, .undef] [.row 0 false 2 es]) =
  (bif decide (i < len) then
     bif decide (z = (3 : Nat) ∧ (0 : Int) ≤ i ∧ i < (↑l.length : Int)) then
       bif
           testAll ([LT.i IntKind.i64] ++ ([LT.i IntKind.i64] ++ ([LT.i IntKind.i64] ++ []))) (0 : Nat)
             (nthD l i.toNat).cells then
         bif
             decide
               ((es.length +
                       [IV.agg
                             [IV.int IntKind.i64 (Im.intOf (nthD (nthD l i.toNat).cells (0 : Nat))),
                               IV.int IntKind.i64 (1 : Int)],
                           IV.agg
                             [IV.int IntKind.i64 (Im.intOf (nthD (nthD l i.toNat).cells (2 : Nat))),
                               IV.int IntKind.i64 (-1 : Int)]].length) *
                     (16 : Nat) ≤
                   roomB ∧
                 es.length +
                     [IV.agg
                           [IV.int IntKind.i64 (Im.intOf (nthD (nthD l i.toNat).cells (0 : Nat))),
                             IV.int IntKind.i64 (1 : Int)],
                         IV.agg
                           [IV.int IntKind.i64 (Im.intOf (nthD (nthD l i.toNat).cells (2 : Nat))),
                             IV.int IntKind.i64 (-1 : Int)]].length ≤
                   maxLen) then
           some
             (Ex.normal,
               Sx (11 : Nat)
                 [IV.fsl nl cl z l, IV.osl (nat_lit 0) (nat_lit 0), IV.undef, IV.undef, IV.undef, IV.undef,
                   IV.fsl nl cl z l, IV.int IntKind.i64 len, IV.int IntKind.i64 (IntKind.i64.wrap (i + (1 : Int))),
                   IV.undef, IV.undef, IV.undef]
                 [Blk.row (nat_lit 0) false (nat_lit 2)
                     (es ++
                       [IV.agg
                           [IV.int IntKind.i64 (Im.intOf (nthD (nthD l i.toNat).cells (0 : Nat))),
                             IV.int IntKind.i64 (1 : Int)],
                         IV.agg
                           [IV.int IntKind.i64 (Im.intOf (nthD (nthD l i.toNat).cells (2 : Nat))),
                             IV.int IntKind.i64 (-1 : Int)]])])
         else none
       else none
     else none
   else
     some
       (Ex.exit (nat_lit 0),
         Sx (11 : Nat)
           [IV.fsl nl cl z l, IV.osl (nat_lit 0) (nat_lit 0), IV.undef, IV.undef, IV.undef, IV.undef, IV.fsl nl cl z l,
             IV.int IntKind.i64 len, IV.int IntKind.i64 i, IV.undef, IV.undef, IV.undef]
           [Blk.row (nat_lit 0) false (nat_lit 2) es])) := by kernel_rfl
end Go.Proofs.Ytfcedalbamafiaa
