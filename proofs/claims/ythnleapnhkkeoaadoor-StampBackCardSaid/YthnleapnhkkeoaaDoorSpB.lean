/- What AppendUint answers. It bears no condition. -/
import Derived.Test.YthnleapnhkkeoaaDoorSpA
-- BYTES bytsB
namespace Go.Proofs.YthnleapnhkkeoaaDoor
open Go Go.Im
set_option linter.unusedVariables false
set_option linter.unusedSimpArgs false
abbrev tabA (k : Nat) (c : Int → Bool) (t : Int → List UInt8) : FuncId → Option SpecF := tab [(47, fun xs T => match xs, T with
  | [.int .i64 n], [] => [(decide (0 ≤ n ∧ n < 100), .str (t n), [])]
  | _, _ => []), (48, fun xs T => match xs, T with
  | [.int .u64 n], [] => [(c n, .int .i64 (k : Nat), [])]
  | _, _ => [])]
def bytsB0 : List UInt8 := [48, 48, 48, 49, 48, 50, 48, 51, 48, 52, 48, 53, 48, 54, 48, 55, 48, 56, 48, 57, 49, 48, 49, 49, 49, 50, 49, 51, 49, 52, 49, 53, 49, 54, 49, 55, 49, 56, 49, 57, 50, 48, 50, 49, 50, 50, 50, 51, 50, 52, 50, 53, 50, 54, 50, 55, 50, 56, 50, 57, 51, 48, 51, 49, 51, 50, 51, 51, 51, 52, 51, 53, 51, 54, 51, 55, 51, 56, 51, 57, 52, 48, 52, 49, 52, 50, 52, 51, 52, 52, 52, 53, 52, 54, 52, 55, 52, 56, 52, 57, 53, 48, 53, 49, 53, 50, 53, 51, 53, 52, 53, 53, 53, 54, 53, 55, 53, 56, 53, 57, 54, 48, 54, 49, 54, 50, 54, 51, 54, 52, 54, 53, 54, 54, 54, 55, 54, 56, 54, 57, 55, 48, 55, 49, 55, 50, 55, 51, 55, 52, 55, 53, 55, 54, 55, 55, 55, 56, 55, 57, 56, 48, 56, 49, 56, 50, 56, 51, 56, 52, 56, 53, 56, 54, 56, 55, 56, 56, 56, 57, 57, 48, 57, 49, 57, 50, 57, 51, 57, 52, 57, 53, 57, 54, 57, 55, 57, 56, 57, 57]
theorem app3_tree (x : Int) (c : Int → Bool) (t : Int → List UInt8) : C (tabA 3 c t) 41 [.fsl (some true) true 0 [], .int .u64 x, .int .i64 10] =
  (bif decide (x < (100 : Int)) then
     bif decide ((0 : Int) ≤ IntKind.i64.wrap x ∧ IntKind.i64.wrap x < (100 : Int)) then
       bif
           decide
             (((0 : Nat) = (1 : Nat) ∨ (0 : Nat) = (0 : Nat)) ∧
               ((0 : Nat) = (0 : Nat) ∨ (0 : Nat) < (u8s (t (IntKind.i64.wrap x))).length) ∧
                 ((0 : Nat) + (u8s (t (IntKind.i64.wrap x))).length) * (1 : Nat) ≤ roomB ∧
                   (0 : Nat) + (u8s (t (IntKind.i64.wrap x))).length ≤ maxLen) then
         some (IV.fsl none false (nat_lit 1) ([] ++ u8s (t (IntKind.i64.wrap x))), [])
       else none
     else none
   else
     bif c x then
       bif
           decide
             ((0 : Int) ≤
                 IntKind.u32.wrap (IntKind.u32.wrap ((IntKind.u32.wrap x).tmod (100 : Int) * (2 : Int)) + (1 : Int)) ∧
               IntKind.u32.wrap (IntKind.u32.wrap ((IntKind.u32.wrap x).tmod (100 : Int) * (2 : Int)) + (1 : Int)) <
                 (↑(200 : Nat) : Int)) then
         bif
             decide
               ((0 : Int) ≤ IntKind.u32.wrap ((IntKind.u32.wrap x).tmod (100 : Int) * (2 : Int)) ∧
                 IntKind.u32.wrap ((IntKind.u32.wrap x).tmod (100 : Int) * (2 : Int)) < (↑(200 : Nat) : Int)) then
           some
             (IV.fsl none false (nat_lit 1)
                 [IV.int IntKind.u8
                     (IntKind.u8.wrap
                       (IntKind.u32.wrap ((48 : Int) + IntKind.u32.wrap ((IntKind.u32.wrap x).tdiv (100 : Int))))),
                   IV.int IntKind.u8
                     (↑(bytsB0.getD
                             (IntKind.u32.wrap ((IntKind.u32.wrap x).tmod (100 : Int) * (2 : Int))).toNat
                             (0 : UInt8)).toNat :
                       Int),
                   IV.int IntKind.u8
                     (↑(bytsB0.getD
                             (IntKind.u32.wrap
                                 (IntKind.u32.wrap ((IntKind.u32.wrap x).tmod (100 : Int) * (2 : Int)) + (1 : Int))).toNat
                             (0 : UInt8)).toNat :
                       Int)],
               [])
         else none
       else none
     else none) := by kernel_rfl
theorem app4_tree (x : Int) (c : Int → Bool) (t : Int → List UInt8) : C (tabA 4 c t) 41 [.fsl (some true) true 0 [], .int .u64 x, .int .i64 10] =
  (bif decide (x < (100 : Int)) then
     bif decide ((0 : Int) ≤ IntKind.i64.wrap x ∧ IntKind.i64.wrap x < (100 : Int)) then
       bif
           decide
             (((0 : Nat) = (1 : Nat) ∨ (0 : Nat) = (0 : Nat)) ∧
               ((0 : Nat) = (0 : Nat) ∨ (0 : Nat) < (u8s (t (IntKind.i64.wrap x))).length) ∧
                 ((0 : Nat) + (u8s (t (IntKind.i64.wrap x))).length) * (1 : Nat) ≤ roomB ∧
                   (0 : Nat) + (u8s (t (IntKind.i64.wrap x))).length ≤ maxLen) then
         some (IV.fsl none false (nat_lit 1) ([] ++ u8s (t (IntKind.i64.wrap x))), [])
       else none
     else none
   else
     bif c x then
       bif
           decide
             ((0 : Int) ≤
                 IntKind.u32.wrap
                   (IntKind.u32.wrap (((IntKind.u32.wrap x).tmod (10000 : Int)).tmod (100 : Int) * (2 : Int)) +
                     (1 : Int)) ∧
               IntKind.u32.wrap
                   (IntKind.u32.wrap (((IntKind.u32.wrap x).tmod (10000 : Int)).tmod (100 : Int) * (2 : Int)) +
                     (1 : Int)) <
                 (↑(200 : Nat) : Int)) then
         bif
             decide
               ((0 : Int) ≤ IntKind.u32.wrap (((IntKind.u32.wrap x).tmod (10000 : Int)).tmod (100 : Int) * (2 : Int)) ∧
                 IntKind.u32.wrap (((IntKind.u32.wrap x).tmod (10000 : Int)).tmod (100 : Int) * (2 : Int)) <
                   (↑(200 : Nat) : Int)) then
           bif
               decide
                 ((0 : Int) ≤
                     IntKind.u32.wrap
                       (IntKind.u32.wrap
                           (IntKind.u32.wrap (((IntKind.u32.wrap x).tmod (10000 : Int)).tdiv (100 : Int)) * (2 : Int)) +
                         (1 : Int)) ∧
                   IntKind.u32.wrap
                       (IntKind.u32.wrap
                           (IntKind.u32.wrap (((IntKind.u32.wrap x).tmod (10000 : Int)).tdiv (100 : Int)) * (2 : Int)) +
                         (1 : Int)) <
                     (↑(200 : Nat) : Int)) then
             bif
                 decide
                   ((0 : Int) ≤
                       IntKind.u32.wrap
                         (IntKind.u32.wrap (((IntKind.u32.wrap x).tmod (10000 : Int)).tdiv (100 : Int)) * (2 : Int)) ∧
                     IntKind.u32.wrap
                         (IntKind.u32.wrap (((IntKind.u32.wrap x).tmod (10000 : Int)).tdiv (100 : Int)) * (2 : Int)) <
                       (↑(200 : Nat) : Int)) then
               some
                 (IV.fsl none false (nat_lit 1)
                     [IV.int IntKind.u8
                         (↑(bytsB0.getD
                                 (IntKind.u32.wrap
                                     (IntKind.u32.wrap (((IntKind.u32.wrap x).tmod (10000 : Int)).tdiv (100 : Int)) *
                                       (2 : Int))).toNat
                                 (0 : UInt8)).toNat :
                           Int),
                       IV.int IntKind.u8
                         (↑(bytsB0.getD
                                 (IntKind.u32.wrap
                                     (IntKind.u32.wrap
                                         (IntKind.u32.wrap (((IntKind.u32.wrap x).tmod (10000 : Int)).tdiv (100 : Int)) *
                                           (2 : Int)) +
                                       (1 : Int))).toNat
                                 (0 : UInt8)).toNat :
                           Int),
                       IV.int IntKind.u8
                         (↑(bytsB0.getD
                                 (IntKind.u32.wrap
                                     (((IntKind.u32.wrap x).tmod (10000 : Int)).tmod (100 : Int) * (2 : Int))).toNat
                                 (0 : UInt8)).toNat :
                           Int),
                       IV.int IntKind.u8
                         (↑(bytsB0.getD
                                 (IntKind.u32.wrap
                                     (IntKind.u32.wrap
                                         (((IntKind.u32.wrap x).tmod (10000 : Int)).tmod (100 : Int) * (2 : Int)) +
                                       (1 : Int))).toNat
                                 (0 : UInt8)).toNat :
                           Int)],
                   [])
             else none
           else none
         else none
       else none
     else none) := by kernel_rfl
theorem app5_tree (x : Int) (c : Int → Bool) (t : Int → List UInt8) : C (tabA 5 c t) 41 [.fsl (some true) true 0 [], .int .u64 x, .int .i64 10] =
  (bif decide (x < (100 : Int)) then
     bif decide ((0 : Int) ≤ IntKind.i64.wrap x ∧ IntKind.i64.wrap x < (100 : Int)) then
       bif
           decide
             (((0 : Nat) = (1 : Nat) ∨ (0 : Nat) = (0 : Nat)) ∧
               ((0 : Nat) = (0 : Nat) ∨ (0 : Nat) < (u8s (t (IntKind.i64.wrap x))).length) ∧
                 ((0 : Nat) + (u8s (t (IntKind.i64.wrap x))).length) * (1 : Nat) ≤ roomB ∧
                   (0 : Nat) + (u8s (t (IntKind.i64.wrap x))).length ≤ maxLen) then
         some (IV.fsl none false (nat_lit 1) ([] ++ u8s (t (IntKind.i64.wrap x))), [])
       else none
     else none
   else
     bif c x then
       bif
           decide
             ((0 : Int) ≤
                 IntKind.u32.wrap
                   (IntKind.u32.wrap (((IntKind.u32.wrap x).tmod (10000 : Int)).tmod (100 : Int) * (2 : Int)) +
                     (1 : Int)) ∧
               IntKind.u32.wrap
                   (IntKind.u32.wrap (((IntKind.u32.wrap x).tmod (10000 : Int)).tmod (100 : Int) * (2 : Int)) +
                     (1 : Int)) <
                 (↑(200 : Nat) : Int)) then
         bif
             decide
               ((0 : Int) ≤ IntKind.u32.wrap (((IntKind.u32.wrap x).tmod (10000 : Int)).tmod (100 : Int) * (2 : Int)) ∧
                 IntKind.u32.wrap (((IntKind.u32.wrap x).tmod (10000 : Int)).tmod (100 : Int) * (2 : Int)) <
                   (↑(200 : Nat) : Int)) then
           bif
               decide
                 ((0 : Int) ≤
                     IntKind.u32.wrap
                       (IntKind.u32.wrap
                           (IntKind.u32.wrap (((IntKind.u32.wrap x).tmod (10000 : Int)).tdiv (100 : Int)) * (2 : Int)) +
                         (1 : Int)) ∧
                   IntKind.u32.wrap
                       (IntKind.u32.wrap
                           (IntKind.u32.wrap (((IntKind.u32.wrap x).tmod (10000 : Int)).tdiv (100 : Int)) * (2 : Int)) +
                         (1 : Int)) <
                     (↑(200 : Nat) : Int)) then
             bif
                 decide
                   ((0 : Int) ≤
                       IntKind.u32.wrap
                         (IntKind.u32.wrap (((IntKind.u32.wrap x).tmod (10000 : Int)).tdiv (100 : Int)) * (2 : Int)) ∧
                     IntKind.u32.wrap
                         (IntKind.u32.wrap (((IntKind.u32.wrap x).tmod (10000 : Int)).tdiv (100 : Int)) * (2 : Int)) <
                       (↑(200 : Nat) : Int)) then
               some
                 (IV.fsl none false (nat_lit 1)
                     [IV.int IntKind.u8
                         (IntKind.u8.wrap
                           (IntKind.u32.wrap ((48 : Int) + IntKind.u32.wrap ((IntKind.u32.wrap x).tdiv (10000 : Int))))),
                       IV.int IntKind.u8
                         (↑(bytsB0.getD
                                 (IntKind.u32.wrap
                                     (IntKind.u32.wrap (((IntKind.u32.wrap x).tmod (10000 : Int)).tdiv (100 : Int)) *
                                       (2 : Int))).toNat
                                 (0 : UInt8)).toNat :
                           Int),
                       IV.int IntKind.u8
                         (↑(bytsB0.getD
                                 (IntKind.u32.wrap
                                     (IntKind.u32.wrap
                                         (IntKind.u32.wrap (((IntKind.u32.wrap x).tmod (10000 : Int)).tdiv (100 : Int)) *
                                           (2 : Int)) +
                                       (1 : Int))).toNat
                                 (0 : UInt8)).toNat :
                           Int),
                       IV.int IntKind.u8
                         (↑(bytsB0.getD
                                 (IntKind.u32.wrap
                                     (((IntKind.u32.wrap x).tmod (10000 : Int)).tmod (100 : Int) * (2 : Int))).toNat
                                 (0 : UInt8)).toNat :
                           Int),
                       IV.int IntKind.u8
                         (↑(bytsB0.getD
                                 (IntKind.u32.wrap
                                     (IntKind.u32.wrap
                                         (((IntKind.u32.wrap x).tmod (10000 : Int)).tmod (100 : Int) * (2 : Int)) +
                                       (1 : Int))).toNat
                                 (0 : UInt8)).toNat :
                           Int)],
                   [])
             else none
           else none
         else none
       else none
     else none) := by kernel_rfl
theorem app6_tree (x : Int) (c : Int → Bool) (t : Int → List UInt8) : C (tabA 6 c t) 41 [.fsl (some true) true 0 [], .int .u64 x, .int .i64 10] =
  (bif decide (x < (100 : Int)) then
     bif decide ((0 : Int) ≤ IntKind.i64.wrap x ∧ IntKind.i64.wrap x < (100 : Int)) then
       bif
           decide
             (((0 : Nat) = (1 : Nat) ∨ (0 : Nat) = (0 : Nat)) ∧
               ((0 : Nat) = (0 : Nat) ∨ (0 : Nat) < (u8s (t (IntKind.i64.wrap x))).length) ∧
                 ((0 : Nat) + (u8s (t (IntKind.i64.wrap x))).length) * (1 : Nat) ≤ roomB ∧
                   (0 : Nat) + (u8s (t (IntKind.i64.wrap x))).length ≤ maxLen) then
         some (IV.fsl none false (nat_lit 1) ([] ++ u8s (t (IntKind.i64.wrap x))), [])
       else none
     else none
   else
     bif c x then
       bif
           decide
             ((0 : Int) ≤
                 IntKind.u32.wrap
                   (IntKind.u32.wrap (((IntKind.u32.wrap x).tmod (10000 : Int)).tmod (100 : Int) * (2 : Int)) +
                     (1 : Int)) ∧
               IntKind.u32.wrap
                   (IntKind.u32.wrap (((IntKind.u32.wrap x).tmod (10000 : Int)).tmod (100 : Int) * (2 : Int)) +
                     (1 : Int)) <
                 (↑(200 : Nat) : Int)) then
         bif
             decide
               ((0 : Int) ≤ IntKind.u32.wrap (((IntKind.u32.wrap x).tmod (10000 : Int)).tmod (100 : Int) * (2 : Int)) ∧
                 IntKind.u32.wrap (((IntKind.u32.wrap x).tmod (10000 : Int)).tmod (100 : Int) * (2 : Int)) <
                   (↑(200 : Nat) : Int)) then
           bif
               decide
                 ((0 : Int) ≤
                     IntKind.u32.wrap
                       (IntKind.u32.wrap
                           (IntKind.u32.wrap (((IntKind.u32.wrap x).tmod (10000 : Int)).tdiv (100 : Int)) * (2 : Int)) +
                         (1 : Int)) ∧
                   IntKind.u32.wrap
                       (IntKind.u32.wrap
                           (IntKind.u32.wrap (((IntKind.u32.wrap x).tmod (10000 : Int)).tdiv (100 : Int)) * (2 : Int)) +
                         (1 : Int)) <
                     (↑(200 : Nat) : Int)) then
             bif
                 decide
                   ((0 : Int) ≤
                       IntKind.u32.wrap
                         (IntKind.u32.wrap (((IntKind.u32.wrap x).tmod (10000 : Int)).tdiv (100 : Int)) * (2 : Int)) ∧
                     IntKind.u32.wrap
                         (IntKind.u32.wrap (((IntKind.u32.wrap x).tmod (10000 : Int)).tdiv (100 : Int)) * (2 : Int)) <
                       (↑(200 : Nat) : Int)) then
               bif
                   decide
                     ((0 : Int) ≤
                         IntKind.u32.wrap
                           (IntKind.u32.wrap
                               ((IntKind.u32.wrap ((IntKind.u32.wrap x).tdiv (10000 : Int))).tmod (100 : Int) *
                                 (2 : Int)) +
                             (1 : Int)) ∧
                       IntKind.u32.wrap
                           (IntKind.u32.wrap
                               ((IntKind.u32.wrap ((IntKind.u32.wrap x).tdiv (10000 : Int))).tmod (100 : Int) *
                                 (2 : Int)) +
                             (1 : Int)) <
                         (↑(200 : Nat) : Int)) then
                 bif
                     decide
                       ((0 : Int) ≤
                           IntKind.u32.wrap
                             ((IntKind.u32.wrap ((IntKind.u32.wrap x).tdiv (10000 : Int))).tmod (100 : Int) * (2 : Int)) ∧
                         IntKind.u32.wrap
                             ((IntKind.u32.wrap ((IntKind.u32.wrap x).tdiv (10000 : Int))).tmod (100 : Int) * (2 : Int)) <
                           (↑(200 : Nat) : Int)) then
                   some
                     (IV.fsl none false (nat_lit 1)
                         [IV.int IntKind.u8
                             (↑(bytsB0.getD
                                     (IntKind.u32.wrap
                                         ((IntKind.u32.wrap ((IntKind.u32.wrap x).tdiv (10000 : Int))).tmod (100 : Int) *
                                           (2 : Int))).toNat
                                     (0 : UInt8)).toNat :
                               Int),
                           IV.int IntKind.u8
                             (↑(bytsB0.getD
                                     (IntKind.u32.wrap
                                         (IntKind.u32.wrap
                                             ((IntKind.u32.wrap ((IntKind.u32.wrap x).tdiv (10000 : Int))).tmod
                                                 (100 : Int) *
                                               (2 : Int)) +
                                           (1 : Int))).toNat
                                     (0 : UInt8)).toNat :
                               Int),
                           IV.int IntKind.u8
                             (↑(bytsB0.getD
                                     (IntKind.u32.wrap
                                         (IntKind.u32.wrap (((IntKind.u32.wrap x).tmod (10000 : Int)).tdiv (100 : Int)) *
                                           (2 : Int))).toNat
                                     (0 : UInt8)).toNat :
                               Int),
                           IV.int IntKind.u8
                             (↑(bytsB0.getD
                                     (IntKind.u32.wrap
                                         (IntKind.u32.wrap
                                             (IntKind.u32.wrap
                                                 (((IntKind.u32.wrap x).tmod (10000 : Int)).tdiv (100 : Int)) *
                                               (2 : Int)) +
                                           (1 : Int))).toNat
                                     (0 : UInt8)).toNat :
                               Int),
                           IV.int IntKind.u8
                             (↑(bytsB0.getD
                                     (IntKind.u32.wrap
                                         (((IntKind.u32.wrap x).tmod (10000 : Int)).tmod (100 : Int) * (2 : Int))).toNat
                                     (0 : UInt8)).toNat :
                               Int),
                           IV.int IntKind.u8
                             (↑(bytsB0.getD
                                     (IntKind.u32.wrap
                                         (IntKind.u32.wrap
                                             (((IntKind.u32.wrap x).tmod (10000 : Int)).tmod (100 : Int) * (2 : Int)) +
                                           (1 : Int))).toNat
                                     (0 : UInt8)).toNat :
                               Int)],
                       [])
                 else none
               else none
             else none
           else none
         else none
       else none
     else none) := by kernel_rfl
theorem app7_tree (x : Int) (c : Int → Bool) (t : Int → List UInt8) : C (tabA 7 c t) 41 [.fsl (some true) true 0 [], .int .u64 x, .int .i64 10] =
  (bif decide (x < (100 : Int)) then
     bif decide ((0 : Int) ≤ IntKind.i64.wrap x ∧ IntKind.i64.wrap x < (100 : Int)) then
       bif
           decide
             (((0 : Nat) = (1 : Nat) ∨ (0 : Nat) = (0 : Nat)) ∧
               ((0 : Nat) = (0 : Nat) ∨ (0 : Nat) < (u8s (t (IntKind.i64.wrap x))).length) ∧
                 ((0 : Nat) + (u8s (t (IntKind.i64.wrap x))).length) * (1 : Nat) ≤ roomB ∧
                   (0 : Nat) + (u8s (t (IntKind.i64.wrap x))).length ≤ maxLen) then
         some (IV.fsl none false (nat_lit 1) ([] ++ u8s (t (IntKind.i64.wrap x))), [])
       else none
     else none
   else
     bif c x then
       bif
           decide
             ((0 : Int) ≤
                 IntKind.u32.wrap
                   (IntKind.u32.wrap (((IntKind.u32.wrap x).tmod (10000 : Int)).tmod (100 : Int) * (2 : Int)) +
                     (1 : Int)) ∧
               IntKind.u32.wrap
                   (IntKind.u32.wrap (((IntKind.u32.wrap x).tmod (10000 : Int)).tmod (100 : Int) * (2 : Int)) +
                     (1 : Int)) <
                 (↑(200 : Nat) : Int)) then
         bif
             decide
               ((0 : Int) ≤ IntKind.u32.wrap (((IntKind.u32.wrap x).tmod (10000 : Int)).tmod (100 : Int) * (2 : Int)) ∧
                 IntKind.u32.wrap (((IntKind.u32.wrap x).tmod (10000 : Int)).tmod (100 : Int) * (2 : Int)) <
                   (↑(200 : Nat) : Int)) then
           bif
               decide
                 ((0 : Int) ≤
                     IntKind.u32.wrap
                       (IntKind.u32.wrap
                           (IntKind.u32.wrap (((IntKind.u32.wrap x).tmod (10000 : Int)).tdiv (100 : Int)) * (2 : Int)) +
                         (1 : Int)) ∧
                   IntKind.u32.wrap
                       (IntKind.u32.wrap
                           (IntKind.u32.wrap (((IntKind.u32.wrap x).tmod (10000 : Int)).tdiv (100 : Int)) * (2 : Int)) +
                         (1 : Int)) <
                     (↑(200 : Nat) : Int)) then
             bif
                 decide
                   ((0 : Int) ≤
                       IntKind.u32.wrap
                         (IntKind.u32.wrap (((IntKind.u32.wrap x).tmod (10000 : Int)).tdiv (100 : Int)) * (2 : Int)) ∧
                     IntKind.u32.wrap
                         (IntKind.u32.wrap (((IntKind.u32.wrap x).tmod (10000 : Int)).tdiv (100 : Int)) * (2 : Int)) <
                       (↑(200 : Nat) : Int)) then
               bif
                   decide
                     ((0 : Int) ≤
                         IntKind.u32.wrap
                           (IntKind.u32.wrap
                               ((IntKind.u32.wrap ((IntKind.u32.wrap x).tdiv (10000 : Int))).tmod (100 : Int) *
                                 (2 : Int)) +
                             (1 : Int)) ∧
                       IntKind.u32.wrap
                           (IntKind.u32.wrap
                               ((IntKind.u32.wrap ((IntKind.u32.wrap x).tdiv (10000 : Int))).tmod (100 : Int) *
                                 (2 : Int)) +
                             (1 : Int)) <
                         (↑(200 : Nat) : Int)) then
                 bif
                     decide
                       ((0 : Int) ≤
                           IntKind.u32.wrap
                             ((IntKind.u32.wrap ((IntKind.u32.wrap x).tdiv (10000 : Int))).tmod (100 : Int) * (2 : Int)) ∧
                         IntKind.u32.wrap
                             ((IntKind.u32.wrap ((IntKind.u32.wrap x).tdiv (10000 : Int))).tmod (100 : Int) * (2 : Int)) <
                           (↑(200 : Nat) : Int)) then
                   some
                     (IV.fsl none false (nat_lit 1)
                         [IV.int IntKind.u8
                             (IntKind.u8.wrap
                               (IntKind.u32.wrap
                                 ((48 : Int) +
                                   IntKind.u32.wrap
                                     ((IntKind.u32.wrap ((IntKind.u32.wrap x).tdiv (10000 : Int))).tdiv (100 : Int))))),
                           IV.int IntKind.u8
                             (↑(bytsB0.getD
                                     (IntKind.u32.wrap
                                         ((IntKind.u32.wrap ((IntKind.u32.wrap x).tdiv (10000 : Int))).tmod (100 : Int) *
                                           (2 : Int))).toNat
                                     (0 : UInt8)).toNat :
                               Int),
                           IV.int IntKind.u8
                             (↑(bytsB0.getD
                                     (IntKind.u32.wrap
                                         (IntKind.u32.wrap
                                             ((IntKind.u32.wrap ((IntKind.u32.wrap x).tdiv (10000 : Int))).tmod
                                                 (100 : Int) *
                                               (2 : Int)) +
                                           (1 : Int))).toNat
                                     (0 : UInt8)).toNat :
                               Int),
                           IV.int IntKind.u8
                             (↑(bytsB0.getD
                                     (IntKind.u32.wrap
                                         (IntKind.u32.wrap (((IntKind.u32.wrap x).tmod (10000 : Int)).tdiv (100 : Int)) *
                                           (2 : Int))).toNat
                                     (0 : UInt8)).toNat :
                               Int),
                           IV.int IntKind.u8
                             (↑(bytsB0.getD
                                     (IntKind.u32.wrap
                                         (IntKind.u32.wrap
                                             (IntKind.u32.wrap
                                                 (((IntKind.u32.wrap x).tmod (10000 : Int)).tdiv (100 : Int)) *
                                               (2 : Int)) +
                                           (1 : Int))).toNat
                                     (0 : UInt8)).toNat :
                               Int),
                           IV.int IntKind.u8
                             (↑(bytsB0.getD
                                     (IntKind.u32.wrap
                                         (((IntKind.u32.wrap x).tmod (10000 : Int)).tmod (100 : Int) * (2 : Int))).toNat
                                     (0 : UInt8)).toNat :
                               Int),
                           IV.int IntKind.u8
                             (↑(bytsB0.getD
                                     (IntKind.u32.wrap
                                         (IntKind.u32.wrap
                                             (((IntKind.u32.wrap x).tmod (10000 : Int)).tmod (100 : Int) * (2 : Int)) +
                                           (1 : Int))).toNat
                                     (0 : UInt8)).toNat :
                               Int)],
                       [])
                 else none
               else none
             else none
           else none
         else none
       else none
     else none) := by kernel_rfl
theorem app8_tree (x : Int) (c : Int → Bool) (t : Int → List UInt8) : C (tabA 8 c t) 41 [.fsl (some true) true 0 [], .int .u64 x, .int .i64 10] =
  (bif decide (x < (100 : Int)) then
     bif decide ((0 : Int) ≤ IntKind.i64.wrap x ∧ IntKind.i64.wrap x < (100 : Int)) then
       bif
           decide
             (((0 : Nat) = (1 : Nat) ∨ (0 : Nat) = (0 : Nat)) ∧
               ((0 : Nat) = (0 : Nat) ∨ (0 : Nat) < (u8s (t (IntKind.i64.wrap x))).length) ∧
                 ((0 : Nat) + (u8s (t (IntKind.i64.wrap x))).length) * (1 : Nat) ≤ roomB ∧
                   (0 : Nat) + (u8s (t (IntKind.i64.wrap x))).length ≤ maxLen) then
         some (IV.fsl none false (nat_lit 1) ([] ++ u8s (t (IntKind.i64.wrap x))), [])
       else none
     else none
   else
     bif c x then
       bif
           decide
             ((0 : Int) ≤
                 IntKind.u32.wrap
                   (IntKind.u32.wrap
                       (((IntKind.u32.wrap (x.tmod (100000000 : Int))).tmod (10000 : Int)).tmod (100 : Int) * (2 : Int)) +
                     (1 : Int)) ∧
               IntKind.u32.wrap
                   (IntKind.u32.wrap
                       (((IntKind.u32.wrap (x.tmod (100000000 : Int))).tmod (10000 : Int)).tmod (100 : Int) * (2 : Int)) +
                     (1 : Int)) <
                 (↑(200 : Nat) : Int)) then
         bif
             decide
               ((0 : Int) ≤
                   IntKind.u32.wrap
                     (((IntKind.u32.wrap (x.tmod (100000000 : Int))).tmod (10000 : Int)).tmod (100 : Int) * (2 : Int)) ∧
                 IntKind.u32.wrap
                     (((IntKind.u32.wrap (x.tmod (100000000 : Int))).tmod (10000 : Int)).tmod (100 : Int) * (2 : Int)) <
                   (↑(200 : Nat) : Int)) then
           bif
               decide
                 ((0 : Int) ≤
                     IntKind.u32.wrap
                       (IntKind.u32.wrap
                           (IntKind.u32.wrap
                               (((IntKind.u32.wrap (x.tmod (100000000 : Int))).tmod (10000 : Int)).tdiv (100 : Int)) *
                             (2 : Int)) +
                         (1 : Int)) ∧
                   IntKind.u32.wrap
                       (IntKind.u32.wrap
                           (IntKind.u32.wrap
                               (((IntKind.u32.wrap (x.tmod (100000000 : Int))).tmod (10000 : Int)).tdiv (100 : Int)) *
                             (2 : Int)) +
                         (1 : Int)) <
                     (↑(200 : Nat) : Int)) then
             bif
                 decide
                   ((0 : Int) ≤
                       IntKind.u32.wrap
                         (IntKind.u32.wrap
                             (((IntKind.u32.wrap (x.tmod (100000000 : Int))).tmod (10000 : Int)).tdiv (100 : Int)) *
                           (2 : Int)) ∧
                     IntKind.u32.wrap
                         (IntKind.u32.wrap
                             (((IntKind.u32.wrap (x.tmod (100000000 : Int))).tmod (10000 : Int)).tdiv (100 : Int)) *
                           (2 : Int)) <
                       (↑(200 : Nat) : Int)) then
               bif
                   decide
                     ((0 : Int) ≤
                         IntKind.u32.wrap
                           (IntKind.u32.wrap
                               ((IntKind.u32.wrap ((IntKind.u32.wrap (x.tmod (100000000 : Int))).tdiv (10000 : Int))).tmod
                                   (100 : Int) *
                                 (2 : Int)) +
                             (1 : Int)) ∧
                       IntKind.u32.wrap
                           (IntKind.u32.wrap
                               ((IntKind.u32.wrap ((IntKind.u32.wrap (x.tmod (100000000 : Int))).tdiv (10000 : Int))).tmod
                                   (100 : Int) *
                                 (2 : Int)) +
                             (1 : Int)) <
                         (↑(200 : Nat) : Int)) then
                 bif
                     decide
                       ((0 : Int) ≤
                           IntKind.u32.wrap
                             ((IntKind.u32.wrap ((IntKind.u32.wrap (x.tmod (100000000 : Int))).tdiv (10000 : Int))).tmod
                                 (100 : Int) *
                               (2 : Int)) ∧
                         IntKind.u32.wrap
                             ((IntKind.u32.wrap ((IntKind.u32.wrap (x.tmod (100000000 : Int))).tdiv (10000 : Int))).tmod
                                 (100 : Int) *
                               (2 : Int)) <
                           (↑(200 : Nat) : Int)) then
                   bif
                       decide
                         ((0 : Int) ≤
                             IntKind.u32.wrap
                               (IntKind.u32.wrap
                                   (IntKind.u32.wrap
                                       ((IntKind.u32.wrap
                                             ((IntKind.u32.wrap (x.tmod (100000000 : Int))).tdiv (10000 : Int))).tdiv
                                         (100 : Int)) *
                                     (2 : Int)) +
                                 (1 : Int)) ∧
                           IntKind.u32.wrap
                               (IntKind.u32.wrap
                                   (IntKind.u32.wrap
                                       ((IntKind.u32.wrap
                                             ((IntKind.u32.wrap (x.tmod (100000000 : Int))).tdiv (10000 : Int))).tdiv
                                         (100 : Int)) *
                                     (2 : Int)) +
                                 (1 : Int)) <
                             (↑(200 : Nat) : Int)) then
                     bif
                         decide
                           ((0 : Int) ≤
                               IntKind.u32.wrap
                                 (IntKind.u32.wrap
                                     ((IntKind.u32.wrap
                                           ((IntKind.u32.wrap (x.tmod (100000000 : Int))).tdiv (10000 : Int))).tdiv
                                       (100 : Int)) *
                                   (2 : Int)) ∧
                             IntKind.u32.wrap
                                 (IntKind.u32.wrap
                                     ((IntKind.u32.wrap
                                           ((IntKind.u32.wrap (x.tmod (100000000 : Int))).tdiv (10000 : Int))).tdiv
                                       (100 : Int)) *
                                   (2 : Int)) <
                               (↑(200 : Nat) : Int)) then
                       some
                         (IV.fsl none false (nat_lit 1)
                             [IV.int IntKind.u8
                                 (↑(bytsB0.getD
                                         (IntKind.u32.wrap
                                             (IntKind.u32.wrap
                                                 ((IntKind.u32.wrap
                                                       ((IntKind.u32.wrap (x.tmod (100000000 : Int))).tdiv
                                                         (10000 : Int))).tdiv
                                                   (100 : Int)) *
                                               (2 : Int))).toNat
                                         (0 : UInt8)).toNat :
                                   Int),
                               IV.int IntKind.u8
                                 (↑(bytsB0.getD
                                         (IntKind.u32.wrap
                                             (IntKind.u32.wrap
                                                 (IntKind.u32.wrap
                                                     ((IntKind.u32.wrap
                                                           ((IntKind.u32.wrap (x.tmod (100000000 : Int))).tdiv
                                                             (10000 : Int))).tdiv
                                                       (100 : Int)) *
                                                   (2 : Int)) +
                                               (1 : Int))).toNat
                                         (0 : UInt8)).toNat :
                                   Int),
                               IV.int IntKind.u8
                                 (↑(bytsB0.getD
                                         (IntKind.u32.wrap
                                             ((IntKind.u32.wrap
                                                     ((IntKind.u32.wrap (x.tmod (100000000 : Int))).tdiv
                                                       (10000 : Int))).tmod
                                                 (100 : Int) *
                                               (2 : Int))).toNat
                                         (0 : UInt8)).toNat :
                                   Int),
                               IV.int IntKind.u8
                                 (↑(bytsB0.getD
                                         (IntKind.u32.wrap
                                             (IntKind.u32.wrap
                                                 ((IntKind.u32.wrap
                                                         ((IntKind.u32.wrap (x.tmod (100000000 : Int))).tdiv
                                                           (10000 : Int))).tmod
                                                     (100 : Int) *
                                                   (2 : Int)) +
                                               (1 : Int))).toNat
                                         (0 : UInt8)).toNat :
                                   Int),
                               IV.int IntKind.u8
                                 (↑(bytsB0.getD
                                         (IntKind.u32.wrap
                                             (IntKind.u32.wrap
                                                 (((IntKind.u32.wrap (x.tmod (100000000 : Int))).tmod (10000 : Int)).tdiv
                                                   (100 : Int)) *
                                               (2 : Int))).toNat
                                         (0 : UInt8)).toNat :
                                   Int),
                               IV.int IntKind.u8
                                 (↑(bytsB0.getD
                                         (IntKind.u32.wrap
                                             (IntKind.u32.wrap
                                                 (IntKind.u32.wrap
                                                     (((IntKind.u32.wrap (x.tmod (100000000 : Int))).tmod
                                                           (10000 : Int)).tdiv
                                                       (100 : Int)) *
                                                   (2 : Int)) +
                                               (1 : Int))).toNat
                                         (0 : UInt8)).toNat :
                                   Int),
                               IV.int IntKind.u8
                                 (↑(bytsB0.getD
                                         (IntKind.u32.wrap
                                             (((IntKind.u32.wrap (x.tmod (100000000 : Int))).tmod (10000 : Int)).tmod
                                                 (100 : Int) *
                                               (2 : Int))).toNat
                                         (0 : UInt8)).toNat :
                                   Int),
                               IV.int IntKind.u8
                                 (↑(bytsB0.getD
                                         (IntKind.u32.wrap
                                             (IntKind.u32.wrap
                                                 (((IntKind.u32.wrap (x.tmod (100000000 : Int))).tmod (10000 : Int)).tmod
                                                     (100 : Int) *
                                                   (2 : Int)) +
                                               (1 : Int))).toNat
                                         (0 : UInt8)).toNat :
                                   Int)],
                           [])
                     else none
                   else none
                 else none
               else none
             else none
           else none
         else none
       else none
     else none) := by kernel_rfl
theorem app9_tree (x : Int) (c : Int → Bool) (t : Int → List UInt8) : C (tabA 9 c t) 41 [.fsl (some true) true 0 [], .int .u64 x, .int .i64 10] =
  (bif decide (x < (100 : Int)) then
     bif decide ((0 : Int) ≤ IntKind.i64.wrap x ∧ IntKind.i64.wrap x < (100 : Int)) then
       bif
           decide
             (((0 : Nat) = (1 : Nat) ∨ (0 : Nat) = (0 : Nat)) ∧
               ((0 : Nat) = (0 : Nat) ∨ (0 : Nat) < (u8s (t (IntKind.i64.wrap x))).length) ∧
                 ((0 : Nat) + (u8s (t (IntKind.i64.wrap x))).length) * (1 : Nat) ≤ roomB ∧
                   (0 : Nat) + (u8s (t (IntKind.i64.wrap x))).length ≤ maxLen) then
         some (IV.fsl none false (nat_lit 1) ([] ++ u8s (t (IntKind.i64.wrap x))), [])
       else none
     else none
   else
     bif c x then
       bif
           decide
             ((0 : Int) ≤
                 IntKind.u32.wrap
                   (IntKind.u32.wrap
                       (((IntKind.u32.wrap (x.tmod (100000000 : Int))).tmod (10000 : Int)).tmod (100 : Int) * (2 : Int)) +
                     (1 : Int)) ∧
               IntKind.u32.wrap
                   (IntKind.u32.wrap
                       (((IntKind.u32.wrap (x.tmod (100000000 : Int))).tmod (10000 : Int)).tmod (100 : Int) * (2 : Int)) +
                     (1 : Int)) <
                 (↑(200 : Nat) : Int)) then
         bif
             decide
               ((0 : Int) ≤
                   IntKind.u32.wrap
                     (((IntKind.u32.wrap (x.tmod (100000000 : Int))).tmod (10000 : Int)).tmod (100 : Int) * (2 : Int)) ∧
                 IntKind.u32.wrap
                     (((IntKind.u32.wrap (x.tmod (100000000 : Int))).tmod (10000 : Int)).tmod (100 : Int) * (2 : Int)) <
                   (↑(200 : Nat) : Int)) then
           bif
               decide
                 ((0 : Int) ≤
                     IntKind.u32.wrap
                       (IntKind.u32.wrap
                           (IntKind.u32.wrap
                               (((IntKind.u32.wrap (x.tmod (100000000 : Int))).tmod (10000 : Int)).tdiv (100 : Int)) *
                             (2 : Int)) +
                         (1 : Int)) ∧
                   IntKind.u32.wrap
                       (IntKind.u32.wrap
                           (IntKind.u32.wrap
                               (((IntKind.u32.wrap (x.tmod (100000000 : Int))).tmod (10000 : Int)).tdiv (100 : Int)) *
                             (2 : Int)) +
                         (1 : Int)) <
                     (↑(200 : Nat) : Int)) then
             bif
                 decide
                   ((0 : Int) ≤
                       IntKind.u32.wrap
                         (IntKind.u32.wrap
                             (((IntKind.u32.wrap (x.tmod (100000000 : Int))).tmod (10000 : Int)).tdiv (100 : Int)) *
                           (2 : Int)) ∧
                     IntKind.u32.wrap
                         (IntKind.u32.wrap
                             (((IntKind.u32.wrap (x.tmod (100000000 : Int))).tmod (10000 : Int)).tdiv (100 : Int)) *
                           (2 : Int)) <
                       (↑(200 : Nat) : Int)) then
               bif
                   decide
                     ((0 : Int) ≤
                         IntKind.u32.wrap
                           (IntKind.u32.wrap
                               ((IntKind.u32.wrap ((IntKind.u32.wrap (x.tmod (100000000 : Int))).tdiv (10000 : Int))).tmod
                                   (100 : Int) *
                                 (2 : Int)) +
                             (1 : Int)) ∧
                       IntKind.u32.wrap
                           (IntKind.u32.wrap
                               ((IntKind.u32.wrap ((IntKind.u32.wrap (x.tmod (100000000 : Int))).tdiv (10000 : Int))).tmod
                                   (100 : Int) *
                                 (2 : Int)) +
                             (1 : Int)) <
                         (↑(200 : Nat) : Int)) then
                 bif
                     decide
                       ((0 : Int) ≤
                           IntKind.u32.wrap
                             ((IntKind.u32.wrap ((IntKind.u32.wrap (x.tmod (100000000 : Int))).tdiv (10000 : Int))).tmod
                                 (100 : Int) *
                               (2 : Int)) ∧
                         IntKind.u32.wrap
                             ((IntKind.u32.wrap ((IntKind.u32.wrap (x.tmod (100000000 : Int))).tdiv (10000 : Int))).tmod
                                 (100 : Int) *
                               (2 : Int)) <
                           (↑(200 : Nat) : Int)) then
                   bif
                       decide
                         ((0 : Int) ≤
                             IntKind.u32.wrap
                               (IntKind.u32.wrap
                                   (IntKind.u32.wrap
                                       ((IntKind.u32.wrap
                                             ((IntKind.u32.wrap (x.tmod (100000000 : Int))).tdiv (10000 : Int))).tdiv
                                         (100 : Int)) *
                                     (2 : Int)) +
                                 (1 : Int)) ∧
                           IntKind.u32.wrap
                               (IntKind.u32.wrap
                                   (IntKind.u32.wrap
                                       ((IntKind.u32.wrap
                                             ((IntKind.u32.wrap (x.tmod (100000000 : Int))).tdiv (10000 : Int))).tdiv
                                         (100 : Int)) *
                                     (2 : Int)) +
                                 (1 : Int)) <
                             (↑(200 : Nat) : Int)) then
                     bif
                         decide
                           ((0 : Int) ≤
                               IntKind.u32.wrap
                                 (IntKind.u32.wrap
                                     ((IntKind.u32.wrap
                                           ((IntKind.u32.wrap (x.tmod (100000000 : Int))).tdiv (10000 : Int))).tdiv
                                       (100 : Int)) *
                                   (2 : Int)) ∧
                             IntKind.u32.wrap
                                 (IntKind.u32.wrap
                                     ((IntKind.u32.wrap
                                           ((IntKind.u32.wrap (x.tmod (100000000 : Int))).tdiv (10000 : Int))).tdiv
                                       (100 : Int)) *
                                   (2 : Int)) <
                               (↑(200 : Nat) : Int)) then
                       some
                         (IV.fsl none false (nat_lit 1)
                             [IV.int IntKind.u8
                                 (IntKind.u8.wrap
                                   (IntKind.u32.wrap
                                     ((48 : Int) + IntKind.u32.wrap (IntKind.u64.wrap (x.tdiv (100000000 : Int)))))),
                               IV.int IntKind.u8
                                 (↑(bytsB0.getD
                                         (IntKind.u32.wrap
                                             (IntKind.u32.wrap
                                                 ((IntKind.u32.wrap
                                                       ((IntKind.u32.wrap (x.tmod (100000000 : Int))).tdiv
                                                         (10000 : Int))).tdiv
                                                   (100 : Int)) *
                                               (2 : Int))).toNat
                                         (0 : UInt8)).toNat :
                                   Int),
                               IV.int IntKind.u8
                                 (↑(bytsB0.getD
                                         (IntKind.u32.wrap
                                             (IntKind.u32.wrap
                                                 (IntKind.u32.wrap
                                                     ((IntKind.u32.wrap
                                                           ((IntKind.u32.wrap (x.tmod (100000000 : Int))).tdiv
                                                             (10000 : Int))).tdiv
                                                       (100 : Int)) *
                                                   (2 : Int)) +
                                               (1 : Int))).toNat
                                         (0 : UInt8)).toNat :
                                   Int),
                               IV.int IntKind.u8
                                 (↑(bytsB0.getD
                                         (IntKind.u32.wrap
                                             ((IntKind.u32.wrap
                                                     ((IntKind.u32.wrap (x.tmod (100000000 : Int))).tdiv
                                                       (10000 : Int))).tmod
                                                 (100 : Int) *
                                               (2 : Int))).toNat
                                         (0 : UInt8)).toNat :
                                   Int),
                               IV.int IntKind.u8
                                 (↑(bytsB0.getD
                                         (IntKind.u32.wrap
                                             (IntKind.u32.wrap
                                                 ((IntKind.u32.wrap
                                                         ((IntKind.u32.wrap (x.tmod (100000000 : Int))).tdiv
                                                           (10000 : Int))).tmod
                                                     (100 : Int) *
                                                   (2 : Int)) +
                                               (1 : Int))).toNat
                                         (0 : UInt8)).toNat :
                                   Int),
                               IV.int IntKind.u8
                                 (↑(bytsB0.getD
                                         (IntKind.u32.wrap
                                             (IntKind.u32.wrap
                                                 (((IntKind.u32.wrap (x.tmod (100000000 : Int))).tmod (10000 : Int)).tdiv
                                                   (100 : Int)) *
                                               (2 : Int))).toNat
                                         (0 : UInt8)).toNat :
                                   Int),
                               IV.int IntKind.u8
                                 (↑(bytsB0.getD
                                         (IntKind.u32.wrap
                                             (IntKind.u32.wrap
                                                 (IntKind.u32.wrap
                                                     (((IntKind.u32.wrap (x.tmod (100000000 : Int))).tmod
                                                           (10000 : Int)).tdiv
                                                       (100 : Int)) *
                                                   (2 : Int)) +
                                               (1 : Int))).toNat
                                         (0 : UInt8)).toNat :
                                   Int),
                               IV.int IntKind.u8
                                 (↑(bytsB0.getD
                                         (IntKind.u32.wrap
                                             (((IntKind.u32.wrap (x.tmod (100000000 : Int))).tmod (10000 : Int)).tmod
                                                 (100 : Int) *
                                               (2 : Int))).toNat
                                         (0 : UInt8)).toNat :
                                   Int),
                               IV.int IntKind.u8
                                 (↑(bytsB0.getD
                                         (IntKind.u32.wrap
                                             (IntKind.u32.wrap
                                                 (((IntKind.u32.wrap (x.tmod (100000000 : Int))).tmod (10000 : Int)).tmod
                                                     (100 : Int) *
                                                   (2 : Int)) +
                                               (1 : Int))).toNat
                                         (0 : UInt8)).toNat :
                                   Int)],
                           [])
                     else none
                   else none
                 else none
               else none
             else none
           else none
         else none
       else none
     else none) := by kernel_rfl
theorem app10_tree (x : Int) (c : Int → Bool) (t : Int → List UInt8) : C (tabA 10 c t) 41 [.fsl (some true) true 0 [], .int .u64 x, .int .i64 10] =
  (bif decide (x < (100 : Int)) then
     bif decide ((0 : Int) ≤ IntKind.i64.wrap x ∧ IntKind.i64.wrap x < (100 : Int)) then
       bif
           decide
             (((0 : Nat) = (1 : Nat) ∨ (0 : Nat) = (0 : Nat)) ∧
               ((0 : Nat) = (0 : Nat) ∨ (0 : Nat) < (u8s (t (IntKind.i64.wrap x))).length) ∧
                 ((0 : Nat) + (u8s (t (IntKind.i64.wrap x))).length) * (1 : Nat) ≤ roomB ∧
                   (0 : Nat) + (u8s (t (IntKind.i64.wrap x))).length ≤ maxLen) then
         some (IV.fsl none false (nat_lit 1) ([] ++ u8s (t (IntKind.i64.wrap x))), [])
       else none
     else none
   else
     bif c x then
       bif
           decide
             ((0 : Int) ≤
                 IntKind.u32.wrap
                   (IntKind.u32.wrap
                       (((IntKind.u32.wrap (x.tmod (100000000 : Int))).tmod (10000 : Int)).tmod (100 : Int) * (2 : Int)) +
                     (1 : Int)) ∧
               IntKind.u32.wrap
                   (IntKind.u32.wrap
                       (((IntKind.u32.wrap (x.tmod (100000000 : Int))).tmod (10000 : Int)).tmod (100 : Int) * (2 : Int)) +
                     (1 : Int)) <
                 (↑(200 : Nat) : Int)) then
         bif
             decide
               ((0 : Int) ≤
                   IntKind.u32.wrap
                     (((IntKind.u32.wrap (x.tmod (100000000 : Int))).tmod (10000 : Int)).tmod (100 : Int) * (2 : Int)) ∧
                 IntKind.u32.wrap
                     (((IntKind.u32.wrap (x.tmod (100000000 : Int))).tmod (10000 : Int)).tmod (100 : Int) * (2 : Int)) <
                   (↑(200 : Nat) : Int)) then
           bif
               decide
                 ((0 : Int) ≤
                     IntKind.u32.wrap
                       (IntKind.u32.wrap
                           (IntKind.u32.wrap
                               (((IntKind.u32.wrap (x.tmod (100000000 : Int))).tmod (10000 : Int)).tdiv (100 : Int)) *
                             (2 : Int)) +
                         (1 : Int)) ∧
                   IntKind.u32.wrap
                       (IntKind.u32.wrap
                           (IntKind.u32.wrap
                               (((IntKind.u32.wrap (x.tmod (100000000 : Int))).tmod (10000 : Int)).tdiv (100 : Int)) *
                             (2 : Int)) +
                         (1 : Int)) <
                     (↑(200 : Nat) : Int)) then
             bif
                 decide
                   ((0 : Int) ≤
                       IntKind.u32.wrap
                         (IntKind.u32.wrap
                             (((IntKind.u32.wrap (x.tmod (100000000 : Int))).tmod (10000 : Int)).tdiv (100 : Int)) *
                           (2 : Int)) ∧
                     IntKind.u32.wrap
                         (IntKind.u32.wrap
                             (((IntKind.u32.wrap (x.tmod (100000000 : Int))).tmod (10000 : Int)).tdiv (100 : Int)) *
                           (2 : Int)) <
                       (↑(200 : Nat) : Int)) then
               bif
                   decide
                     ((0 : Int) ≤
                         IntKind.u32.wrap
                           (IntKind.u32.wrap
                               ((IntKind.u32.wrap ((IntKind.u32.wrap (x.tmod (100000000 : Int))).tdiv (10000 : Int))).tmod
                                   (100 : Int) *
                                 (2 : Int)) +
                             (1 : Int)) ∧
                       IntKind.u32.wrap
                           (IntKind.u32.wrap
                               ((IntKind.u32.wrap ((IntKind.u32.wrap (x.tmod (100000000 : Int))).tdiv (10000 : Int))).tmod
                                   (100 : Int) *
                                 (2 : Int)) +
                             (1 : Int)) <
                         (↑(200 : Nat) : Int)) then
                 bif
                     decide
                       ((0 : Int) ≤
                           IntKind.u32.wrap
                             ((IntKind.u32.wrap ((IntKind.u32.wrap (x.tmod (100000000 : Int))).tdiv (10000 : Int))).tmod
                                 (100 : Int) *
                               (2 : Int)) ∧
                         IntKind.u32.wrap
                             ((IntKind.u32.wrap ((IntKind.u32.wrap (x.tmod (100000000 : Int))).tdiv (10000 : Int))).tmod
                                 (100 : Int) *
                               (2 : Int)) <
                           (↑(200 : Nat) : Int)) then
                   bif
                       decide
                         ((0 : Int) ≤
                             IntKind.u32.wrap
                               (IntKind.u32.wrap
                                   (IntKind.u32.wrap
                                       ((IntKind.u32.wrap
                                             ((IntKind.u32.wrap (x.tmod (100000000 : Int))).tdiv (10000 : Int))).tdiv
                                         (100 : Int)) *
                                     (2 : Int)) +
                                 (1 : Int)) ∧
                           IntKind.u32.wrap
                               (IntKind.u32.wrap
                                   (IntKind.u32.wrap
                                       ((IntKind.u32.wrap
                                             ((IntKind.u32.wrap (x.tmod (100000000 : Int))).tdiv (10000 : Int))).tdiv
                                         (100 : Int)) *
                                     (2 : Int)) +
                                 (1 : Int)) <
                             (↑(200 : Nat) : Int)) then
                     bif
                         decide
                           ((0 : Int) ≤
                               IntKind.u32.wrap
                                 (IntKind.u32.wrap
                                     ((IntKind.u32.wrap
                                           ((IntKind.u32.wrap (x.tmod (100000000 : Int))).tdiv (10000 : Int))).tdiv
                                       (100 : Int)) *
                                   (2 : Int)) ∧
                             IntKind.u32.wrap
                                 (IntKind.u32.wrap
                                     ((IntKind.u32.wrap
                                           ((IntKind.u32.wrap (x.tmod (100000000 : Int))).tdiv (10000 : Int))).tdiv
                                       (100 : Int)) *
                                   (2 : Int)) <
                               (↑(200 : Nat) : Int)) then
                       bif
                           decide
                             ((0 : Int) ≤
                                 IntKind.u32.wrap
                                   (IntKind.u32.wrap
                                       ((IntKind.u32.wrap (IntKind.u64.wrap (x.tdiv (100000000 : Int)))).tmod (100 : Int) *
                                         (2 : Int)) +
                                     (1 : Int)) ∧
                               IntKind.u32.wrap
                                   (IntKind.u32.wrap
                                       ((IntKind.u32.wrap (IntKind.u64.wrap (x.tdiv (100000000 : Int)))).tmod (100 : Int) *
                                         (2 : Int)) +
                                     (1 : Int)) <
                                 (↑(200 : Nat) : Int)) then
                         bif
                             decide
                               ((0 : Int) ≤
                                   IntKind.u32.wrap
                                     ((IntKind.u32.wrap (IntKind.u64.wrap (x.tdiv (100000000 : Int)))).tmod (100 : Int) *
                                       (2 : Int)) ∧
                                 IntKind.u32.wrap
                                     ((IntKind.u32.wrap (IntKind.u64.wrap (x.tdiv (100000000 : Int)))).tmod (100 : Int) *
                                       (2 : Int)) <
                                   (↑(200 : Nat) : Int)) then
                           some
                             (IV.fsl none false (nat_lit 1)
                                 [IV.int IntKind.u8
                                     (↑(bytsB0.getD
                                             (IntKind.u32.wrap
                                                 ((IntKind.u32.wrap (IntKind.u64.wrap (x.tdiv (100000000 : Int)))).tmod
                                                     (100 : Int) *
                                                   (2 : Int))).toNat
                                             (0 : UInt8)).toNat :
                                       Int),
                                   IV.int IntKind.u8
                                     (↑(bytsB0.getD
                                             (IntKind.u32.wrap
                                                 (IntKind.u32.wrap
                                                     ((IntKind.u32.wrap (IntKind.u64.wrap (x.tdiv (100000000 : Int)))).tmod
                                                         (100 : Int) *
                                                       (2 : Int)) +
                                                   (1 : Int))).toNat
                                             (0 : UInt8)).toNat :
                                       Int),
                                   IV.int IntKind.u8
                                     (↑(bytsB0.getD
                                             (IntKind.u32.wrap
                                                 (IntKind.u32.wrap
                                                     ((IntKind.u32.wrap
                                                           ((IntKind.u32.wrap (x.tmod (100000000 : Int))).tdiv
                                                             (10000 : Int))).tdiv
                                                       (100 : Int)) *
                                                   (2 : Int))).toNat
                                             (0 : UInt8)).toNat :
                                       Int),
                                   IV.int IntKind.u8
                                     (↑(bytsB0.getD
                                             (IntKind.u32.wrap
                                                 (IntKind.u32.wrap
                                                     (IntKind.u32.wrap
                                                         ((IntKind.u32.wrap
                                                               ((IntKind.u32.wrap (x.tmod (100000000 : Int))).tdiv
                                                                 (10000 : Int))).tdiv
                                                           (100 : Int)) *
                                                       (2 : Int)) +
                                                   (1 : Int))).toNat
                                             (0 : UInt8)).toNat :
                                       Int),
                                   IV.int IntKind.u8
                                     (↑(bytsB0.getD
                                             (IntKind.u32.wrap
                                                 ((IntKind.u32.wrap
                                                         ((IntKind.u32.wrap (x.tmod (100000000 : Int))).tdiv
                                                           (10000 : Int))).tmod
                                                     (100 : Int) *
                                                   (2 : Int))).toNat
                                             (0 : UInt8)).toNat :
                                       Int),
                                   IV.int IntKind.u8
                                     (↑(bytsB0.getD
                                             (IntKind.u32.wrap
                                                 (IntKind.u32.wrap
                                                     ((IntKind.u32.wrap
                                                             ((IntKind.u32.wrap (x.tmod (100000000 : Int))).tdiv
                                                               (10000 : Int))).tmod
                                                         (100 : Int) *
                                                       (2 : Int)) +
                                                   (1 : Int))).toNat
                                             (0 : UInt8)).toNat :
                                       Int),
                                   IV.int IntKind.u8
                                     (↑(bytsB0.getD
                                             (IntKind.u32.wrap
                                                 (IntKind.u32.wrap
                                                     (((IntKind.u32.wrap (x.tmod (100000000 : Int))).tmod
                                                           (10000 : Int)).tdiv
                                                       (100 : Int)) *
                                                   (2 : Int))).toNat
                                             (0 : UInt8)).toNat :
                                       Int),
                                   IV.int IntKind.u8
                                     (↑(bytsB0.getD
                                             (IntKind.u32.wrap
                                                 (IntKind.u32.wrap
                                                     (IntKind.u32.wrap
                                                         (((IntKind.u32.wrap (x.tmod (100000000 : Int))).tmod
                                                               (10000 : Int)).tdiv
                                                           (100 : Int)) *
                                                       (2 : Int)) +
                                                   (1 : Int))).toNat
                                             (0 : UInt8)).toNat :
                                       Int),
                                   IV.int IntKind.u8
                                     (↑(bytsB0.getD
                                             (IntKind.u32.wrap
                                                 (((IntKind.u32.wrap (x.tmod (100000000 : Int))).tmod (10000 : Int)).tmod
                                                     (100 : Int) *
                                                   (2 : Int))).toNat
                                             (0 : UInt8)).toNat :
                                       Int),
                                   IV.int IntKind.u8
                                     (↑(bytsB0.getD
                                             (IntKind.u32.wrap
                                                 (IntKind.u32.wrap
                                                     (((IntKind.u32.wrap (x.tmod (100000000 : Int))).tmod
                                                             (10000 : Int)).tmod
                                                         (100 : Int) *
                                                       (2 : Int)) +
                                                   (1 : Int))).toNat
                                             (0 : UInt8)).toNat :
                                       Int)],
                               [])
                         else none
                       else none
                     else none
                   else none
                 else none
               else none
             else none
           else none
         else none
       else none
     else none) := by kernel_rfl

theorem decL_fix : ∀ (k n : Nat), n < 10 ^ (k + 1) → (k = 0 ∨ 10 ^ k ≤ n) → decL n = (List.range (k + 1)).map fun i => dig (n / 10 ^ (k - i) % 10)
  | 0, n, h, _ => by
    rw [decL_lt (by omega)]
    show [dig n] = [dig (n / 1 % 10)]
    rw [Nat.div_one, Nat.mod_eq_of_lt (by omega)]
  | k + 1, n, h, h2 => by
    have h2 : 10 ^ (k + 1) ≤ n := by omega
    have hp : 10 ^ (k + 1) = 10 ^ k * 10 := rfl
    have hp2 : 10 ^ (k + 1 + 1) = 10 ^ (k + 1) * 10 := rfl
    have h0 : 0 < 10 ^ k := Nat.pow_pos (by decide)
    rw [decL_ge (by omega), decL_fix k (n / 10) (by omega) (by omega), List.range_succ (n := k + 1), List.map_append]
    congr 1
    · refine List.map_congr_left fun i hi => ?_
      have := List.mem_range.1 hi
      have e : k + 1 - i = k - i + 1 := by omega
      rw [e, Nat.pow_succ, Nat.mul_comm, Nat.div_div_eq_div_mul]
    · simp
theorem cell0 {i y d : Nat} {l l' : List IV} (hy : y < 100) (h : i = y * 2) (hd : y / 10 = d) (hl : l = l') : IV.int .u8 (((bytsB0.getD i 0).toNat : Nat) : Int) :: l = IV.int .u8 (((dig d).toNat : Nat) : Int) :: l' := by
  have : bytsB0.getD i 0 = dig (y / 10) := pair0 hy h
  rw [this, hd, hl]
theorem cell1 {i y d : Nat} {l l' : List IV} (hy : y < 100) (h : i = y * 2 + 1) (hd : y % 10 = d) (hl : l = l') : IV.int .u8 (((bytsB0.getD i 0).toNat : Nat) : Int) :: l = IV.int .u8 (((dig d).toNat : Nat) : Int) :: l' := by
  have : bytsB0.getD i 0 = dig (y % 10) := pair1 hy h
  rw [this, hd, hl]
theorem cellD {a d : Nat} {l l' : List IV} (h : a = 48 + d) (hd : d < 10) (hl : l = l') : IV.int .u8 ((a : Nat) : Int) :: l = IV.int .u8 (((dig d).toNat : Nat) : Int) :: l' := by
  rw [dig_cell hd, h, hl]
theorem app3 {m : Nat} {c : Int → Bool} {t : Int → List UInt8} (h1 : 10 ^ 2 ≤ m) (h2 : m < 10 ^ 3) (h3 : m < 4294967296) (hc : c (m : Int) = true) :
    C (tabA 3 c t) 41 [.fsl (some true) true 0 [], .int .u64 (m : Int), .int .i64 10] = some (.fsl none false 1 (u8s (decL m)), []) := by
  refine (app3_tree _ _ _).trans ?_
  have g : decide ((m : Int) < 100) = false := by simp; omega
  have hd : u8s (decL m) = [IV.int .u8 (((dig (m / 100 % 10)).toNat : Nat) : Int), IV.int .u8 (((dig (m / 10 % 10)).toNat : Nat) : Int), IV.int .u8 (((dig (m / 1 % 10)).toNat : Nat) : Int)] := by
    rw [decL_fix 2 m h2 (Or.inr h1)]; rfl
  rw [g, cond_false, hc, cond_true, hd]
  simp only [n_u32, n_u64, n_mod100, n_div100, n_mod4, n_div4, n_mod8, n_div8, n_mul2, n_add1, n_48, n_u8, Int.toNat_natCast]
  simp (disch := omega) only [n_in, cond_true]
  refine congrArg (fun l => some (IV.fsl none false 1 l, ([] : List Blk))) ?_
  refine cellD (by omega) (by omega) ?_
  refine cell0 (y := m / 1 % 100) (by omega) (by omega) (by omega) ?_
  refine cell1 (y := m / 1 % 100) (by omega) (by omega) (by omega) ?_
  rfl
theorem app4 {m : Nat} {c : Int → Bool} {t : Int → List UInt8} (h1 : 10 ^ 3 ≤ m) (h2 : m < 10 ^ 4) (h3 : m < 4294967296) (hc : c (m : Int) = true) :
    C (tabA 4 c t) 41 [.fsl (some true) true 0 [], .int .u64 (m : Int), .int .i64 10] = some (.fsl none false 1 (u8s (decL m)), []) := by
  refine (app4_tree _ _ _).trans ?_
  have g : decide ((m : Int) < 100) = false := by simp; omega
  have hd : u8s (decL m) = [IV.int .u8 (((dig (m / 1000 % 10)).toNat : Nat) : Int), IV.int .u8 (((dig (m / 100 % 10)).toNat : Nat) : Int), IV.int .u8 (((dig (m / 10 % 10)).toNat : Nat) : Int), IV.int .u8 (((dig (m / 1 % 10)).toNat : Nat) : Int)] := by
    rw [decL_fix 3 m h2 (Or.inr h1)]; rfl
  rw [g, cond_false, hc, cond_true, hd]
  simp only [n_u32, n_u64, n_mod100, n_div100, n_mod4, n_div4, n_mod8, n_div8, n_mul2, n_add1, n_48, n_u8, Int.toNat_natCast]
  simp (disch := omega) only [n_in, cond_true]
  refine congrArg (fun l => some (IV.fsl none false 1 l, ([] : List Blk))) ?_
  refine cell0 (y := m / 100 % 100) (by omega) (by omega) (by omega) ?_
  refine cell1 (y := m / 100 % 100) (by omega) (by omega) (by omega) ?_
  refine cell0 (y := m / 1 % 100) (by omega) (by omega) (by omega) ?_
  refine cell1 (y := m / 1 % 100) (by omega) (by omega) (by omega) ?_
  rfl
theorem app5 {m : Nat} {c : Int → Bool} {t : Int → List UInt8} (h1 : 10 ^ 4 ≤ m) (h2 : m < 10 ^ 5) (h3 : m < 4294967296) (hc : c (m : Int) = true) :
    C (tabA 5 c t) 41 [.fsl (some true) true 0 [], .int .u64 (m : Int), .int .i64 10] = some (.fsl none false 1 (u8s (decL m)), []) := by
  refine (app5_tree _ _ _).trans ?_
  have g : decide ((m : Int) < 100) = false := by simp; omega
  have hd : u8s (decL m) = [IV.int .u8 (((dig (m / 10000 % 10)).toNat : Nat) : Int), IV.int .u8 (((dig (m / 1000 % 10)).toNat : Nat) : Int), IV.int .u8 (((dig (m / 100 % 10)).toNat : Nat) : Int), IV.int .u8 (((dig (m / 10 % 10)).toNat : Nat) : Int), IV.int .u8 (((dig (m / 1 % 10)).toNat : Nat) : Int)] := by
    rw [decL_fix 4 m h2 (Or.inr h1)]; rfl
  rw [g, cond_false, hc, cond_true, hd]
  simp only [n_u32, n_u64, n_mod100, n_div100, n_mod4, n_div4, n_mod8, n_div8, n_mul2, n_add1, n_48, n_u8, Int.toNat_natCast]
  simp (disch := omega) only [n_in, cond_true]
  refine congrArg (fun l => some (IV.fsl none false 1 l, ([] : List Blk))) ?_
  refine cellD (by omega) (by omega) ?_
  refine cell0 (y := m / 100 % 100) (by omega) (by omega) (by omega) ?_
  refine cell1 (y := m / 100 % 100) (by omega) (by omega) (by omega) ?_
  refine cell0 (y := m / 1 % 100) (by omega) (by omega) (by omega) ?_
  refine cell1 (y := m / 1 % 100) (by omega) (by omega) (by omega) ?_
  rfl
theorem app6 {m : Nat} {c : Int → Bool} {t : Int → List UInt8} (h1 : 10 ^ 5 ≤ m) (h2 : m < 10 ^ 6) (h3 : m < 4294967296) (hc : c (m : Int) = true) :
    C (tabA 6 c t) 41 [.fsl (some true) true 0 [], .int .u64 (m : Int), .int .i64 10] = some (.fsl none false 1 (u8s (decL m)), []) := by
  refine (app6_tree _ _ _).trans ?_
  have g : decide ((m : Int) < 100) = false := by simp; omega
  have hd : u8s (decL m) = [IV.int .u8 (((dig (m / 100000 % 10)).toNat : Nat) : Int), IV.int .u8 (((dig (m / 10000 % 10)).toNat : Nat) : Int), IV.int .u8 (((dig (m / 1000 % 10)).toNat : Nat) : Int), IV.int .u8 (((dig (m / 100 % 10)).toNat : Nat) : Int), IV.int .u8 (((dig (m / 10 % 10)).toNat : Nat) : Int), IV.int .u8 (((dig (m / 1 % 10)).toNat : Nat) : Int)] := by
    rw [decL_fix 5 m h2 (Or.inr h1)]; rfl
  rw [g, cond_false, hc, cond_true, hd]
  simp only [n_u32, n_u64, n_mod100, n_div100, n_mod4, n_div4, n_mod8, n_div8, n_mul2, n_add1, n_48, n_u8, Int.toNat_natCast]
  simp (disch := omega) only [n_in, cond_true]
  refine congrArg (fun l => some (IV.fsl none false 1 l, ([] : List Blk))) ?_
  refine cell0 (y := m / 10000 % 100) (by omega) (by omega) (by omega) ?_
  refine cell1 (y := m / 10000 % 100) (by omega) (by omega) (by omega) ?_
  refine cell0 (y := m / 100 % 100) (by omega) (by omega) (by omega) ?_
  refine cell1 (y := m / 100 % 100) (by omega) (by omega) (by omega) ?_
  refine cell0 (y := m / 1 % 100) (by omega) (by omega) (by omega) ?_
  refine cell1 (y := m / 1 % 100) (by omega) (by omega) (by omega) ?_
  rfl
theorem app7 {m : Nat} {c : Int → Bool} {t : Int → List UInt8} (h1 : 10 ^ 6 ≤ m) (h2 : m < 10 ^ 7) (h3 : m < 4294967296) (hc : c (m : Int) = true) :
    C (tabA 7 c t) 41 [.fsl (some true) true 0 [], .int .u64 (m : Int), .int .i64 10] = some (.fsl none false 1 (u8s (decL m)), []) := by
  refine (app7_tree _ _ _).trans ?_
  have g : decide ((m : Int) < 100) = false := by simp; omega
  have hd : u8s (decL m) = [IV.int .u8 (((dig (m / 1000000 % 10)).toNat : Nat) : Int), IV.int .u8 (((dig (m / 100000 % 10)).toNat : Nat) : Int), IV.int .u8 (((dig (m / 10000 % 10)).toNat : Nat) : Int), IV.int .u8 (((dig (m / 1000 % 10)).toNat : Nat) : Int), IV.int .u8 (((dig (m / 100 % 10)).toNat : Nat) : Int), IV.int .u8 (((dig (m / 10 % 10)).toNat : Nat) : Int), IV.int .u8 (((dig (m / 1 % 10)).toNat : Nat) : Int)] := by
    rw [decL_fix 6 m h2 (Or.inr h1)]; rfl
  rw [g, cond_false, hc, cond_true, hd]
  simp only [n_u32, n_u64, n_mod100, n_div100, n_mod4, n_div4, n_mod8, n_div8, n_mul2, n_add1, n_48, n_u8, Int.toNat_natCast]
  simp (disch := omega) only [n_in, cond_true]
  refine congrArg (fun l => some (IV.fsl none false 1 l, ([] : List Blk))) ?_
  refine cellD (by omega) (by omega) ?_
  refine cell0 (y := m / 10000 % 100) (by omega) (by omega) (by omega) ?_
  refine cell1 (y := m / 10000 % 100) (by omega) (by omega) (by omega) ?_
  refine cell0 (y := m / 100 % 100) (by omega) (by omega) (by omega) ?_
  refine cell1 (y := m / 100 % 100) (by omega) (by omega) (by omega) ?_
  refine cell0 (y := m / 1 % 100) (by omega) (by omega) (by omega) ?_
  refine cell1 (y := m / 1 % 100) (by omega) (by omega) (by omega) ?_
  rfl
theorem app8 {m : Nat} {c : Int → Bool} {t : Int → List UInt8} (h1 : 10 ^ 7 ≤ m) (h2 : m < 10 ^ 8) (h3 : m < 4294967296) (hc : c (m : Int) = true) :
    C (tabA 8 c t) 41 [.fsl (some true) true 0 [], .int .u64 (m : Int), .int .i64 10] = some (.fsl none false 1 (u8s (decL m)), []) := by
  refine (app8_tree _ _ _).trans ?_
  have g : decide ((m : Int) < 100) = false := by simp; omega
  have hd : u8s (decL m) = [IV.int .u8 (((dig (m / 10000000 % 10)).toNat : Nat) : Int), IV.int .u8 (((dig (m / 1000000 % 10)).toNat : Nat) : Int), IV.int .u8 (((dig (m / 100000 % 10)).toNat : Nat) : Int), IV.int .u8 (((dig (m / 10000 % 10)).toNat : Nat) : Int), IV.int .u8 (((dig (m / 1000 % 10)).toNat : Nat) : Int), IV.int .u8 (((dig (m / 100 % 10)).toNat : Nat) : Int), IV.int .u8 (((dig (m / 10 % 10)).toNat : Nat) : Int), IV.int .u8 (((dig (m / 1 % 10)).toNat : Nat) : Int)] := by
    rw [decL_fix 7 m h2 (Or.inr h1)]; rfl
  rw [g, cond_false, hc, cond_true, hd]
  simp only [n_u32, n_u64, n_mod100, n_div100, n_mod4, n_div4, n_mod8, n_div8, n_mul2, n_add1, n_48, n_u8, Int.toNat_natCast]
  simp (disch := omega) only [n_in, cond_true]
  refine congrArg (fun l => some (IV.fsl none false 1 l, ([] : List Blk))) ?_
  refine cell0 (y := m / 1000000 % 100) (by omega) (by omega) (by omega) ?_
  refine cell1 (y := m / 1000000 % 100) (by omega) (by omega) (by omega) ?_
  refine cell0 (y := m / 10000 % 100) (by omega) (by omega) (by omega) ?_
  refine cell1 (y := m / 10000 % 100) (by omega) (by omega) (by omega) ?_
  refine cell0 (y := m / 100 % 100) (by omega) (by omega) (by omega) ?_
  refine cell1 (y := m / 100 % 100) (by omega) (by omega) (by omega) ?_
  refine cell0 (y := m / 1 % 100) (by omega) (by omega) (by omega) ?_
  refine cell1 (y := m / 1 % 100) (by omega) (by omega) (by omega) ?_
  rfl
theorem app9 {m : Nat} {c : Int → Bool} {t : Int → List UInt8} (h1 : 10 ^ 8 ≤ m) (h2 : m < 10 ^ 9) (h3 : m < 4294967296) (hc : c (m : Int) = true) :
    C (tabA 9 c t) 41 [.fsl (some true) true 0 [], .int .u64 (m : Int), .int .i64 10] = some (.fsl none false 1 (u8s (decL m)), []) := by
  refine (app9_tree _ _ _).trans ?_
  have g : decide ((m : Int) < 100) = false := by simp; omega
  have hd : u8s (decL m) = [IV.int .u8 (((dig (m / 100000000 % 10)).toNat : Nat) : Int), IV.int .u8 (((dig (m / 10000000 % 10)).toNat : Nat) : Int), IV.int .u8 (((dig (m / 1000000 % 10)).toNat : Nat) : Int), IV.int .u8 (((dig (m / 100000 % 10)).toNat : Nat) : Int), IV.int .u8 (((dig (m / 10000 % 10)).toNat : Nat) : Int), IV.int .u8 (((dig (m / 1000 % 10)).toNat : Nat) : Int), IV.int .u8 (((dig (m / 100 % 10)).toNat : Nat) : Int), IV.int .u8 (((dig (m / 10 % 10)).toNat : Nat) : Int), IV.int .u8 (((dig (m / 1 % 10)).toNat : Nat) : Int)] := by
    rw [decL_fix 8 m h2 (Or.inr h1)]; rfl
  rw [g, cond_false, hc, cond_true, hd]
  simp only [n_u32, n_u64, n_mod100, n_div100, n_mod4, n_div4, n_mod8, n_div8, n_mul2, n_add1, n_48, n_u8, Int.toNat_natCast]
  simp (disch := omega) only [n_in, cond_true]
  refine congrArg (fun l => some (IV.fsl none false 1 l, ([] : List Blk))) ?_
  refine cellD (by omega) (by omega) ?_
  refine cell0 (y := m / 1000000 % 100) (by omega) (by omega) (by omega) ?_
  refine cell1 (y := m / 1000000 % 100) (by omega) (by omega) (by omega) ?_
  refine cell0 (y := m / 10000 % 100) (by omega) (by omega) (by omega) ?_
  refine cell1 (y := m / 10000 % 100) (by omega) (by omega) (by omega) ?_
  refine cell0 (y := m / 100 % 100) (by omega) (by omega) (by omega) ?_
  refine cell1 (y := m / 100 % 100) (by omega) (by omega) (by omega) ?_
  refine cell0 (y := m / 1 % 100) (by omega) (by omega) (by omega) ?_
  refine cell1 (y := m / 1 % 100) (by omega) (by omega) (by omega) ?_
  rfl
theorem app10 {m : Nat} {c : Int → Bool} {t : Int → List UInt8} (h1 : 10 ^ 9 ≤ m) (h2 : m < 10 ^ 10) (h3 : m < 4294967296) (hc : c (m : Int) = true) :
    C (tabA 10 c t) 41 [.fsl (some true) true 0 [], .int .u64 (m : Int), .int .i64 10] = some (.fsl none false 1 (u8s (decL m)), []) := by
  refine (app10_tree _ _ _).trans ?_
  have g : decide ((m : Int) < 100) = false := by simp; omega
  have hd : u8s (decL m) = [IV.int .u8 (((dig (m / 1000000000 % 10)).toNat : Nat) : Int), IV.int .u8 (((dig (m / 100000000 % 10)).toNat : Nat) : Int), IV.int .u8 (((dig (m / 10000000 % 10)).toNat : Nat) : Int), IV.int .u8 (((dig (m / 1000000 % 10)).toNat : Nat) : Int), IV.int .u8 (((dig (m / 100000 % 10)).toNat : Nat) : Int), IV.int .u8 (((dig (m / 10000 % 10)).toNat : Nat) : Int), IV.int .u8 (((dig (m / 1000 % 10)).toNat : Nat) : Int), IV.int .u8 (((dig (m / 100 % 10)).toNat : Nat) : Int), IV.int .u8 (((dig (m / 10 % 10)).toNat : Nat) : Int), IV.int .u8 (((dig (m / 1 % 10)).toNat : Nat) : Int)] := by
    rw [decL_fix 9 m h2 (Or.inr h1)]; rfl
  rw [g, cond_false, hc, cond_true, hd]
  simp only [n_u32, n_u64, n_mod100, n_div100, n_mod4, n_div4, n_mod8, n_div8, n_mul2, n_add1, n_48, n_u8, Int.toNat_natCast]
  simp (disch := omega) only [n_in, cond_true]
  refine congrArg (fun l => some (IV.fsl none false 1 l, ([] : List Blk))) ?_
  refine cell0 (y := m / 100000000 % 100) (by omega) (by omega) (by omega) ?_
  refine cell1 (y := m / 100000000 % 100) (by omega) (by omega) (by omega) ?_
  refine cell0 (y := m / 1000000 % 100) (by omega) (by omega) (by omega) ?_
  refine cell1 (y := m / 1000000 % 100) (by omega) (by omega) (by omega) ?_
  refine cell0 (y := m / 10000 % 100) (by omega) (by omega) (by omega) ?_
  refine cell1 (y := m / 10000 % 100) (by omega) (by omega) (by omega) ?_
  refine cell0 (y := m / 100 % 100) (by omega) (by omega) (by omega) ?_
  refine cell1 (y := m / 100 % 100) (by omega) (by omega) (by omega) ?_
  refine cell0 (y := m / 1 % 100) (by omega) (by omega) (by omega) ?_
  refine cell1 (y := m / 1 % 100) (by omega) (by omega) (by omega) ?_
  rfl

/-! ### AppendUint -/
def appF : SpecF := fun xs T => match xs, T with
  | [.fsl (some true) true 0 [], .int .u64 n, .int .i64 b], [] => [(decide (0 ≤ n ∧ n < 4294967296 ∧ b = 10), .fsl none false 1 (u8s (decL n.toNat)), [])]
  | _, _ => []
theorem nd_case {m : Nat} (h : 100 ≤ m) (h2 : m < 4294967296) : ∃ k, 3 ≤ k ∧ k ≤ 10 ∧ ndG m = k ∧ 10 ^ (k - 1) ≤ m ∧ m < 10 ^ k := by
  have p : ∀ q, 2 ≤ q → q ≤ 9 → 10 ^ q ≤ m → m < 10 ^ (q + 1) → ∃ k, 3 ≤ k ∧ k ≤ 10 ∧ ndG m = k ∧ 10 ^ (k - 1) ≤ m ∧ m < 10 ^ k := fun q h1 h2 h3 h4 => ⟨q + 1, by omega, by omega, nd_pow h3 h4 h1 h2, h3, h4⟩
  by_cases c3 : m < 10 ^ 3
  · exact p 2 (by omega) (by omega) h c3
  by_cases c4 : m < 10 ^ 4
  · exact p 3 (by omega) (by omega) (by omega) c4
  by_cases c5 : m < 10 ^ 5
  · exact p 4 (by omega) (by omega) (by omega) c5
  by_cases c6 : m < 10 ^ 6
  · exact p 5 (by omega) (by omega) (by omega) c6
  by_cases c7 : m < 10 ^ 7
  · exact p 6 (by omega) (by omega) (by omega) c7
  by_cases c8 : m < 10 ^ 8
  · exact p 7 (by omega) (by omega) (by omega) c8
  by_cases c9 : m < 10 ^ 9
  · exact p 8 (by omega) (by omega) (by omega) c9
  exact p 9 (by omega) (by omega) (by omega) (Nat.lt_trans h2 (by decide))
theorem u8s_len (t : List UInt8) : (u8s t).length = t.length := by simp [u8s]
theorem decL_len : ∀ (k n : Nat), n < 10 ^ (k + 1) → (decL n).length ≤ k + 1
  | 0, n, h => by rw [decL_lt (by omega)]; simp
  | k + 1, n, h => by
    have hp2 : 10 ^ (k + 1 + 1) = 10 ^ (k + 1) * 10 := rfl
    by_cases h9 : n < 10
    · rw [decL_lt h9]; simp
    · rw [decL_ge (by omega)]
      have := decL_len k (n / 10) (by omega)
      simp; omega
theorem app_known : Known Tryd.prog hint 41 appF := by
  have K : ∀ m : Nat, m < 4294967296 → ∃ spec : FuncId → Option SpecF, (∀ f F, spec f = some F → Known Tryd.prog hint f F) ∧ C spec 41 [.fsl (some true) true 0 [], .int .u64 (m : Int), .int .i64 10] = some (.fsl none false 1 (u8s (decL m)), []) := by
    intro m hm
    by_cases h : m < 100
    · refine ⟨tabA 3 (fun n => decide (100 ≤ n ∧ n < 4294967296 ∧ ndG n.toNat = 3)) (fun n => decL n.toNat), tab_cons small_known (tab_cons (num_known 3) tab_nil), (app3_tree _ _ _).trans ?_⟩
      have g : decide ((m : Int) < 100) = true := by simp; omega
      have e : IntKind.i64.wrap (m : Int) = (m : Int) := by rw [wrap_i64]; omega
      have g2 : decide ((0 : Int) ≤ (m : Int) ∧ (m : Int) < 100) = true := by simp; omega
      rw [g, cond_true]
      simp only [e, g2, cond_true, Int.toNat_natCast]
      have hl := decL_len 1 m (by omega)
      have g3 : (0 + (u8s (decL m)).length) * 1 ≤ roomB := by rw [u8s_len]; exact Nat.le_trans (show (0 + (decL m).length) * 1 ≤ 2 by omega) (by decide)
      have g4 : 0 + (u8s (decL m)).length ≤ maxLen := by rw [u8s_len]; exact Nat.le_trans (show 0 + (decL m).length ≤ 2 by omega) (by decide)
      simp only [g3, g4, or_true, true_or, and_self, decide_true, cond_true, List.nil_append]
    · obtain ⟨k, h1, h2, h3, h4, h5⟩ := nd_case (by omega) hm
      refine ⟨tabA k (fun n => decide (100 ≤ n ∧ n < 4294967296 ∧ ndG n.toNat = k)) (fun n => decL n.toNat), tab_cons small_known (tab_cons (num_known k) tab_nil), ?_⟩
      have hc : (fun n : Int => decide (100 ≤ n ∧ n < 4294967296 ∧ ndG n.toNat = k)) (m : Int) = true := by
        simp only [decide_eq_true_eq, Int.toNat_natCast]
        exact ⟨by omega, by omega, h3⟩
      have : k = 3 ∨ k = 4 ∨ k = 5 ∨ k = 6 ∨ k = 7 ∨ k = 8 ∨ k = 9 ∨ k = 10 := by omega
      rcases this with rfl | rfl | rfl | rfl | rfl | rfl | rfl | rfl
      · exact app3 h4 h5 hm hc
      · exact app4 h4 h5 hm hc
      · exact app5 h4 h5 hm hc
      · exact app6 h4 h5 hm hc
      · exact app7 h4 h5 hm hc
      · exact app8 h4 h5 hm hc
      · exact app9 h4 h5 hm hc
      · exact app10 h4 h5 hm hc
  refine known_any fits ?_
  intro xs T v T1 h
  unfold appF at h
  split at h
  · rename_i n b
    simp only [List.mem_cons, List.not_mem_nil, or_false, Prod.mk.injEq, Bool.true_eq, decide_eq_true_eq] at h
    obtain ⟨⟨h1, h2, rfl⟩, rfl, rfl⟩ := h
    obtain ⟨m, rfl⟩ : ∃ m : Nat, n = m := ⟨n.toNat, by omega⟩
    obtain ⟨spec, hs, hc⟩ := K m (by omega)
    rw [Int.toNat_natCast]
    exact ⟨spec, _, hs, loops_none, 30, hc⟩
  · cases h
end Go.Proofs.YthnleapnhkkeoaaDoor
