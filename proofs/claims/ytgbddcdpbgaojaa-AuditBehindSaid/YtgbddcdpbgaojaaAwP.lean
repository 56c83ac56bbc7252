/- Fields are read: what the given program does. It bears no condition. -/
import Derived.Test.YtgbddcdpbgaojaaAwD
-- FOLDS AwC.src.lean
namespace Go.Proofs.Ytgbddcdpbgaojaa
open Go Go.Im
set_option linter.unusedVariables false
set_option linter.unusedSimpArgs false
/-- A row that is cut in two, or is none. -/
def cutP (c1 c2 : Nat → List IV → Bool) (v r : List IV → List IV) : SpecF := fun xs T => match xs, T with
  | [.fsl nl cl z l], [] => [(c1 z l, .tup [.fsl none false 1 (v l), .fsl none false 1 (r l), .bool true], []), (c2 z l, .tup [.fsl (some true) true 0 [], .fsl (some true) true 0 [], .bool false], [])]
  | _, _ => []
def cutL (d1 d2 : List IV → Int → Int → Bool) (g : List IV → Int) : LiveF := fun vs bx => match vs, bx with
  | [.fsl nl cl 1 l, .fsl (some true) true 0 [], .fsl (some true) true 0 [], .bool b, .int .u64 n, .fsl nl2 cl2 1 xs, .int .i64 len, .int .i64 i], [] =>
    [(d1 xs len i, .exit 0, [.fsl nl cl 1 l, .fsl (some true) true 0 [], .fsl (some true) true 0 [], .bool b, .int .u64 n, .fsl nl2 cl2 1 xs, .int .i64 len, .int .i64 len], []),
      (d2 xs len i, .ret, [.fsl nl cl 1 l, .fsl (some true) true 0 [], .fsl (some true) true 0 [], .bool false, .int .u64 n, .fsl nl2 cl2 1 xs, .int .i64 len, .int .i64 (g xs)], [])]
  | _, _ => []
theorem cut_in (b : Bool) (n len i : Int) (nl nl2 : Option Bool) (cl cl2 : Bool) (l xs : List IV) : Rd (tab [(42, getP getFC getFG), (52, intP smallB padG), (45, cloneP cloneC)]) 0 49 506 (Sx 49 [.fsl nl cl 1 l, .fsl (some true) true 0 [], .fsl (some true) true 0 [], .bool b, .int .u64 n, .fsl nl2 cl2 1 xs, .int .i64 len, .int .i64 i] []) =
  (bif decide (i < len) then
     bif decide ((1 : Nat) = (1 : Nat) ∧ (0 : Int) ≤ i ∧ i < (↑xs.length : Int)) then
       bif isOf (LT.i IntKind.u8) (nthD (nthD xs i.toNat).cells (0 : Nat)) then
         bif intOf (nthD (nthD xs i.toNat).cells (0 : Nat)) != (0 : Int) then
           some
             (Ex.ret,
               Sx (49 : Nat)
                 [IV.fsl nl cl (nat_lit 1) l, IV.fsl (some true) true (nat_lit 0) [],
                   IV.fsl (some true) true (nat_lit 0) [], IV.bool false, IV.int IntKind.u64 n,
                   IV.fsl nl2 cl2 (nat_lit 1) xs, IV.int IntKind.i64 len, IV.int IntKind.i64 i]
                 [])
         else
           some
             (Ex.normal,
               Sx (49 : Nat)
                 [IV.fsl nl cl (nat_lit 1) l, IV.fsl (some true) true (nat_lit 0) [],
                   IV.fsl (some true) true (nat_lit 0) [], IV.bool b, IV.int IntKind.u64 n, IV.fsl nl2 cl2 (nat_lit 1) xs,
                   IV.int IntKind.i64 len, IV.int IntKind.i64 (IntKind.i64.wrap (i + (1 : Int)))]
                 [])
       else none
     else none
   else
     some
       (Ex.exit (nat_lit 0),
         Sx (49 : Nat)
           [IV.fsl nl cl (nat_lit 1) l, IV.fsl (some true) true (nat_lit 0) [], IV.fsl (some true) true (nat_lit 0) [],
             IV.bool b, IV.int IntKind.u64 n, IV.fsl nl2 cl2 (nat_lit 1) xs, IV.int IntKind.i64 len, IV.int IntKind.i64 i]
           [])) := by kernel_rfl
theorem cut_all (nl : Option Bool) (cl : Bool) (l : List IV) (c : List IV → Bool) (g : List IV → Int) (q : Int → Bool) (p : Int → Int) (cC : Nat → List IV → Bool) (d1 d2 : List IV → Int → Int → Bool) (g2 : List IV → Int) : Cb (tab [(42, getP c g), (52, intP q p), (45, cloneP cC)]) (ltab [(49, 506, LF 49 0 (cutL d1 d2 g2))]) 49 [.fsl nl cl 1 l] [] =
  (bif decide ((↑l.length : Int) < (4 : Int)) then
     some (IV.tup [IV.fsl (some true) true (nat_lit 0) [], IV.fsl (some true) true (nat_lit 0) [], IV.bool false], [])
   else
     bif decide ((0 : Int) ≤ (0 : Int) ∧ (0 : Int) ≤ (4 : Int) ∧ (4 : Int) ≤ (↑l.length : Int)) then
       bif c (List.take (4 : Nat) (List.drop (0 : Nat) l)) then
         bif decide ((0 : Int) ≤ (4 : Int) ∧ (4 : Int) ≤ (↑l.length : Int) ∧ (↑l.length : Int) ≤ (↑l.length : Int)) then
           bif decide (g (List.take (4 : Nat) (List.drop (0 : Nat) l)) > (2048 : Int)) == false then
             bif q (IntKind.i64.wrap (g (List.take (4 : Nat) (List.drop (0 : Nat) l)))) then
               bif
                   bif false then true
                   else
                     decide
                       (p (IntKind.i64.wrap (g (List.take (4 : Nat) (List.drop (0 : Nat) l)))) >
                         (↑(List.take ((↑l.length : Int).toNat - (4 : Nat)) (List.drop (4 : Nat) l)).length : Int)) then
                 some
                   (IV.tup [IV.fsl (some true) true (nat_lit 0) [], IV.fsl (some true) true (nat_lit 0) [], IV.bool false],
                     [])
               else
                 bif q (IntKind.i64.wrap (g (List.take (4 : Nat) (List.drop (0 : Nat) l)))) then
                   bif
                       decide
                         ((0 : Int) ≤ g (List.take (4 : Nat) (List.drop (0 : Nat) l)) ∧
                           g (List.take (4 : Nat) (List.drop (0 : Nat) l)) ≤
                               p (IntKind.i64.wrap (g (List.take (4 : Nat) (List.drop (0 : Nat) l)))) ∧
                             p (IntKind.i64.wrap (g (List.take (4 : Nat) (List.drop (0 : Nat) l)))) ≤
                               (↑(List.take ((↑l.length : Int).toNat - (4 : Nat)) (List.drop (4 : Nat) l)).length :
                                 Int)) then
                     bif
                         d1
                           (List.take
                             ((p (IntKind.i64.wrap (g (List.take (4 : Nat) (List.drop (0 : Nat) l))))).toNat -
                               (g (List.take (4 : Nat) (List.drop (0 : Nat) l))).toNat)
                             (List.drop (g (List.take (4 : Nat) (List.drop (0 : Nat) l))).toNat
                               (List.take ((↑l.length : Int).toNat - (4 : Nat)) (List.drop (4 : Nat) l))))
                           (↑(List.take
                                   ((p (IntKind.i64.wrap (g (List.take (4 : Nat) (List.drop (0 : Nat) l))))).toNat -
                                     (g (List.take (4 : Nat) (List.drop (0 : Nat) l))).toNat)
                                   (List.drop (g (List.take (4 : Nat) (List.drop (0 : Nat) l))).toNat
                                     (List.take ((↑l.length : Int).toNat - (4 : Nat)) (List.drop (4 : Nat) l)))).length :
                             Int)
                           (0 : Int) then
                       bif
                           decide
                             ((0 : Int) ≤ (0 : Int) ∧
                               (0 : Int) ≤ g (List.take (4 : Nat) (List.drop (0 : Nat) l)) ∧
                                 g (List.take (4 : Nat) (List.drop (0 : Nat) l)) ≤
                                   (↑(List.take ((↑l.length : Int).toNat - (4 : Nat)) (List.drop (4 : Nat) l)).length :
                                     Int)) then
                         bif
                             cC (1 : Nat)
                               (List.take ((g (List.take (4 : Nat) (List.drop (0 : Nat) l))).toNat - (0 : Nat))
                                 (List.drop (0 : Nat)
                                   (List.take ((↑l.length : Int).toNat - (4 : Nat)) (List.drop (4 : Nat) l)))) then
                           bif q (IntKind.i64.wrap (g (List.take (4 : Nat) (List.drop (0 : Nat) l)))) then
                             bif
                                 decide
                                   ((0 : Int) ≤ p (IntKind.i64.wrap (g (List.take (4 : Nat) (List.drop (0 : Nat) l)))) ∧
                                     p (IntKind.i64.wrap (g (List.take (4 : Nat) (List.drop (0 : Nat) l)))) ≤
                                         (↑(List.take ((↑l.length : Int).toNat - (4 : Nat))
                                                 (List.drop (4 : Nat) l)).length :
                                           Int) ∧
                                       (↑(List.take ((↑l.length : Int).toNat - (4 : Nat)) (List.drop (4 : Nat) l)).length :
                                           Int) ≤
                                         (↑(List.take ((↑l.length : Int).toNat - (4 : Nat))
                                                 (List.drop (4 : Nat) l)).length :
                                           Int)) then
                               some
                                 (IV.tup
                                     [IV.fsl none false (nat_lit 1)
                                         (List.take ((g (List.take (4 : Nat) (List.drop (0 : Nat) l))).toNat - (0 : Nat))
                                           (List.drop (0 : Nat)
                                             (List.take ((↑l.length : Int).toNat - (4 : Nat)) (List.drop (4 : Nat) l)))),
                                       IV.fsl nl (cl && (none : Option IV).isNone && (none : Option IV).isNone) (nat_lit 1)
                                         (List.take
                                           ((↑(List.take ((↑l.length : Int).toNat - (4 : Nat))
                                                       (List.drop (4 : Nat) l)).length :
                                                 Int).toNat -
                                             (p
                                                 (IntKind.i64.wrap
                                                   (g (List.take (4 : Nat) (List.drop (0 : Nat) l))))).toNat)
                                           (List.drop
                                             (p (IntKind.i64.wrap (g (List.take (4 : Nat) (List.drop (0 : Nat) l))))).toNat
                                             (List.take ((↑l.length : Int).toNat - (4 : Nat)) (List.drop (4 : Nat) l)))),
                                       IV.bool true],
                                   [])
                             else none
                           else none
                         else none
                       else none
                     else
                       bif
                           d2
                             (List.take
                               ((p (IntKind.i64.wrap (g (List.take (4 : Nat) (List.drop (0 : Nat) l))))).toNat -
                                 (g (List.take (4 : Nat) (List.drop (0 : Nat) l))).toNat)
                               (List.drop (g (List.take (4 : Nat) (List.drop (0 : Nat) l))).toNat
                                 (List.take ((↑l.length : Int).toNat - (4 : Nat)) (List.drop (4 : Nat) l))))
                             (↑(List.take
                                     ((p (IntKind.i64.wrap (g (List.take (4 : Nat) (List.drop (0 : Nat) l))))).toNat -
                                       (g (List.take (4 : Nat) (List.drop (0 : Nat) l))).toNat)
                                     (List.drop (g (List.take (4 : Nat) (List.drop (0 : Nat) l))).toNat
                                       (List.take ((↑l.length : Int).toNat - (4 : Nat)) (List.drop (4 : Nat) l)))).length :
                               Int)
                             (0 : Int) then
                         some
                           (IV.tup
                               [IV.fsl (some true) true (nat_lit 0) [], IV.fsl (some true) true (nat_lit 0) [],
                                 IV.bool false],
                             [])
                       else none
                   else none
                 else none
             else none
           else
             some
               (IV.tup [IV.fsl (some true) true (nat_lit 0) [], IV.fsl (some true) true (nat_lit 0) [], IV.bool false], [])
         else none
       else none
     else none) := by kernel_rfl
theorem field_rd (nl : Option Bool) (cl : Bool) (l : List IV) (c : List IV → Bool) (g : List IV → Int) (c1 c2 : Nat → List IV → Bool) (v r : List IV → List IV) : C (tab [(42, getP c g), (49, cutP c1 c2 v r)]) 44 [.fsl nl cl 1 l] =
  (bif decide ((1 : Nat) = (1 : Nat) ∧ (0 : Int) ≤ (0 : Int) ∧ (0 : Int) < (↑l.length : Int)) then
     bif isOf (LT.i IntKind.u8) (nthD (nthD l (0 : Nat)).cells (0 : Nat)) then
       bif decide ((1 : Nat) = (1 : Nat) ∧ (0 : Int) ≤ (0 : Int) ∧ (0 : Int) < (↑l.length : Int)) then
         bif isOf (LT.i IntKind.u8) (nthD (nthD l (0 : Nat)).cells (0 : Nat)) then
           bif decide ((1 : Nat) = (1 : Nat) ∧ (0 : Int) ≤ (0 : Int) ∧ (0 : Int) < (↑l.length : Int)) then
             bif isOf (LT.i IntKind.u8) (nthD (nthD l (0 : Nat)).cells (0 : Nat)) then
               bif decide ((0 : Int) ≤ (4 : Int) ∧ (4 : Int) ≤ (6 : Int) ∧ (6 : Int) ≤ (↑l.length : Int)) then
                 bif c (List.take (2 : Nat) (List.drop (4 : Nat) l)) then
                   bif decide ((0 : Int) ≤ (8 : Int) ∧ (8 : Int) ≤ (12 : Int) ∧ (12 : Int) ≤ (↑l.length : Int)) then
                     bif c (List.take (4 : Nat) (List.drop (8 : Nat) l)) then
                       bif decide ((0 : Int) ≤ (12 : Int) ∧ (12 : Int) ≤ (16 : Int) ∧ (16 : Int) ≤ (↑l.length : Int)) then
                         bif c (List.take (4 : Nat) (List.drop (12 : Nat) l)) then
                           bif decide ((1 : Nat) = (1 : Nat) ∧ (0 : Int) ≤ (1 : Int) ∧ (1 : Int) < (↑l.length : Int)) then
                             bif isOf (LT.i IntKind.u8) (nthD (nthD l (1 : Nat)).cells (0 : Nat)) then
                               bif (intOf (nthD (nthD l (1 : Nat)).cells (0 : Nat)) != (0 : Int)) == false then
                                 bif
                                     decide
                                       ((1 : Nat) = (1 : Nat) ∧ (0 : Int) ≤ (6 : Int) ∧ (6 : Int) < (↑l.length : Int)) then
                                   bif isOf (LT.i IntKind.u8) (nthD (nthD l (6 : Nat)).cells (0 : Nat)) then
                                     bif
                                         (bif false then true
                                           else intOf (nthD (nthD l (6 : Nat)).cells (0 : Nat)) != (0 : Int)) ==
                                           false then
                                       bif
                                           decide
                                             ((1 : Nat) = (1 : Nat) ∧
                                               (0 : Int) ≤ (7 : Int) ∧ (7 : Int) < (↑l.length : Int)) then
                                         bif isOf (LT.i IntKind.u8) (nthD (nthD l (7 : Nat)).cells (0 : Nat)) then
                                           bif
                                               bif
                                                   bif false then true
                                                   else intOf (nthD (nthD l (7 : Nat)).cells (0 : Nat)) != (0 : Int) then
                                                 true
                                               else
                                                 IntKind.i64.wrap
                                                     (ibits BinOp.and IntKind.u8
                                                       (intOf (nthD (nthD l (0 : Nat)).cells (0 : Nat))) (63 : Int)) ==
                                                   (0 : Int) then
                                             some
                                               (IV.tup
                                                   [IV.agg
                                                       [IV.int IntKind.i64
                                                           (IntKind.i64.wrap
                                                             (ibits BinOp.and IntKind.u8
                                                               (intOf (nthD (nthD l (0 : Nat)).cells (0 : Nat)))
                                                               (63 : Int))),
                                                         IV.bool
                                                           (ibits BinOp.and IntKind.u8
                                                               (intOf (nthD (nthD l (0 : Nat)).cells (0 : Nat)))
                                                               (128 : Int) !=
                                                             (0 : Int)),
                                                         IV.bool
                                                           (ibits BinOp.and IntKind.u8
                                                               (intOf (nthD (nthD l (0 : Nat)).cells (0 : Nat)))
                                                               (64 : Int) !=
                                                             (0 : Int)),
                                                         IV.int IntKind.i64
                                                           (IntKind.i64.wrap
                                                             (g (List.take (2 : Nat) (List.drop (4 : Nat) l)))),
                                                         IV.int IntKind.u32
                                                           (IntKind.u32.wrap
                                                             (g (List.take (4 : Nat) (List.drop (8 : Nat) l)))),
                                                         IV.int IntKind.u32
                                                           (IntKind.u32.wrap
                                                             (g (List.take (4 : Nat) (List.drop (12 : Nat) l)))),
                                                         IV.fsl (some true) true (nat_lit 0) [],
                                                         IV.fsl (some true) true (nat_lit 0) []],
                                                     IV.bool false],
                                                 [])
                                           else
                                             bif
                                                 decide
                                                   ((0 : Int) ≤ (16 : Int) ∧
                                                     (16 : Int) ≤ (↑l.length : Int) ∧
                                                       (↑l.length : Int) ≤ (↑l.length : Int)) then
                                               bif
                                                   c1 (1 : Nat)
                                                     (List.take ((↑l.length : Int).toNat - (16 : Nat))
                                                       (List.drop (16 : Nat) l)) then
                                                 bif
                                                     c1 (1 : Nat)
                                                       (r
                                                         (List.take ((↑l.length : Int).toNat - (16 : Nat))
                                                           (List.drop (16 : Nat) l))) then
                                                   some
                                                     (IV.tup
                                                         [IV.agg
                                                             [IV.int IntKind.i64
                                                                 (IntKind.i64.wrap
                                                                   (ibits BinOp.and IntKind.u8
                                                                     (intOf (nthD (nthD l (0 : Nat)).cells (0 : Nat)))
                                                                     (63 : Int))),
                                                               IV.bool
                                                                 (ibits BinOp.and IntKind.u8
                                                                     (intOf (nthD (nthD l (0 : Nat)).cells (0 : Nat)))
                                                                     (128 : Int) !=
                                                                   (0 : Int)),
                                                               IV.bool
                                                                 (ibits BinOp.and IntKind.u8
                                                                     (intOf (nthD (nthD l (0 : Nat)).cells (0 : Nat)))
                                                                     (64 : Int) !=
                                                                   (0 : Int)),
                                                               IV.int IntKind.i64
                                                                 (IntKind.i64.wrap
                                                                   (g (List.take (2 : Nat) (List.drop (4 : Nat) l)))),
                                                               IV.int IntKind.u32
                                                                 (IntKind.u32.wrap
                                                                   (g (List.take (4 : Nat) (List.drop (8 : Nat) l)))),
                                                               IV.int IntKind.u32
                                                                 (IntKind.u32.wrap
                                                                   (g (List.take (4 : Nat) (List.drop (12 : Nat) l)))),
                                                               IV.fsl none false (nat_lit 1)
                                                                 (v
                                                                   (List.take ((↑l.length : Int).toNat - (16 : Nat))
                                                                     (List.drop (16 : Nat) l))),
                                                               IV.fsl none false (nat_lit 1)
                                                                 (v
                                                                   (r
                                                                     (List.take ((↑l.length : Int).toNat - (16 : Nat))
                                                                       (List.drop (16 : Nat) l))))],
                                                           IV.bool
                                                             (bif true then
                                                               (↑(r
                                                                         (r
                                                                           (List.take
                                                                             ((↑l.length : Int).toNat - (16 : Nat))
                                                                             (List.drop (16 : Nat) l)))).length :
                                                                   Int) ==
                                                                 (0 : Int)
                                                             else false)],
                                                       [])
                                                 else
                                                   bif
                                                       c2 (1 : Nat)
                                                         (r
                                                           (List.take ((↑l.length : Int).toNat - (16 : Nat))
                                                             (List.drop (16 : Nat) l))) then
                                                     some
                                                       (IV.tup
                                                           [IV.agg
                                                               [IV.int IntKind.i64
                                                                   (IntKind.i64.wrap
                                                                     (ibits BinOp.and IntKind.u8
                                                                       (intOf (nthD (nthD l (0 : Nat)).cells (0 : Nat)))
                                                                       (63 : Int))),
                                                                 IV.bool
                                                                   (ibits BinOp.and IntKind.u8
                                                                       (intOf (nthD (nthD l (0 : Nat)).cells (0 : Nat)))
                                                                       (128 : Int) !=
                                                                     (0 : Int)),
                                                                 IV.bool
                                                                   (ibits BinOp.and IntKind.u8
                                                                       (intOf (nthD (nthD l (0 : Nat)).cells (0 : Nat)))
                                                                       (64 : Int) !=
                                                                     (0 : Int)),
                                                                 IV.int IntKind.i64
                                                                   (IntKind.i64.wrap
                                                                     (g (List.take (2 : Nat) (List.drop (4 : Nat) l)))),
                                                                 IV.int IntKind.u32
                                                                   (IntKind.u32.wrap
                                                                     (g (List.take (4 : Nat) (List.drop (8 : Nat) l)))),
                                                                 IV.int IntKind.u32
                                                                   (IntKind.u32.wrap
                                                                     (g (List.take (4 : Nat) (List.drop (12 : Nat) l)))),
                                                                 IV.fsl none false (nat_lit 1)
                                                                   (v
                                                                     (List.take ((↑l.length : Int).toNat - (16 : Nat))
                                                                       (List.drop (16 : Nat) l))),
                                                                 IV.fsl (some true) true (nat_lit 0) []],
                                                             IV.bool false],
                                                         [])
                                                   else none
                                               else
                                                 bif
                                                     c2 (1 : Nat)
                                                       (List.take ((↑l.length : Int).toNat - (16 : Nat))
                                                         (List.drop (16 : Nat) l)) then
                                                   some
                                                     (IV.tup
                                                         [IV.agg
                                                             [IV.int IntKind.i64
                                                                 (IntKind.i64.wrap
                                                                   (ibits BinOp.and IntKind.u8
                                                                     (intOf (nthD (nthD l (0 : Nat)).cells (0 : Nat)))
                                                                     (63 : Int))),
                                                               IV.bool
                                                                 (ibits BinOp.and IntKind.u8
                                                                     (intOf (nthD (nthD l (0 : Nat)).cells (0 : Nat)))
                                                                     (128 : Int) !=
                                                                   (0 : Int)),
                                                               IV.bool
                                                                 (ibits BinOp.and IntKind.u8
                                                                     (intOf (nthD (nthD l (0 : Nat)).cells (0 : Nat)))
                                                                     (64 : Int) !=
                                                                   (0 : Int)),
                                                               IV.int IntKind.i64
                                                                 (IntKind.i64.wrap
                                                                   (g (List.take (2 : Nat) (List.drop (4 : Nat) l)))),
                                                               IV.int IntKind.u32
                                                                 (IntKind.u32.wrap
                                                                   (g (List.take (4 : Nat) (List.drop (8 : Nat) l)))),
                                                               IV.int IntKind.u32
                                                                 (IntKind.u32.wrap
                                                                   (g (List.take (4 : Nat) (List.drop (12 : Nat) l)))),
                                                               IV.fsl (some true) true (nat_lit 0) [],
                                                               IV.fsl (some true) true (nat_lit 0) []],
                                                           IV.bool false],
                                                       [])
                                                 else none
                                             else none
                                         else none
                                       else none
                                     else
                                       some
                                         (IV.tup
                                             [IV.agg
                                                 [IV.int IntKind.i64
                                                     (IntKind.i64.wrap
                                                       (ibits BinOp.and IntKind.u8
                                                         (intOf (nthD (nthD l (0 : Nat)).cells (0 : Nat))) (63 : Int))),
                                                   IV.bool
                                                     (ibits BinOp.and IntKind.u8
                                                         (intOf (nthD (nthD l (0 : Nat)).cells (0 : Nat))) (128 : Int) !=
                                                       (0 : Int)),
                                                   IV.bool
                                                     (ibits BinOp.and IntKind.u8
                                                         (intOf (nthD (nthD l (0 : Nat)).cells (0 : Nat))) (64 : Int) !=
                                                       (0 : Int)),
                                                   IV.int IntKind.i64
                                                     (IntKind.i64.wrap (g (List.take (2 : Nat) (List.drop (4 : Nat) l)))),
                                                   IV.int IntKind.u32
                                                     (IntKind.u32.wrap (g (List.take (4 : Nat) (List.drop (8 : Nat) l)))),
                                                   IV.int IntKind.u32
                                                     (IntKind.u32.wrap (g (List.take (4 : Nat) (List.drop (12 : Nat) l)))),
                                                   IV.fsl (some true) true (nat_lit 0) [],
                                                   IV.fsl (some true) true (nat_lit 0) []],
                                               IV.bool false],
                                           [])
                                   else none
                                 else none
                               else
                                 some
                                   (IV.tup
                                       [IV.agg
                                           [IV.int IntKind.i64
                                               (IntKind.i64.wrap
                                                 (ibits BinOp.and IntKind.u8
                                                   (intOf (nthD (nthD l (0 : Nat)).cells (0 : Nat))) (63 : Int))),
                                             IV.bool
                                               (ibits BinOp.and IntKind.u8
                                                   (intOf (nthD (nthD l (0 : Nat)).cells (0 : Nat))) (128 : Int) !=
                                                 (0 : Int)),
                                             IV.bool
                                               (ibits BinOp.and IntKind.u8
                                                   (intOf (nthD (nthD l (0 : Nat)).cells (0 : Nat))) (64 : Int) !=
                                                 (0 : Int)),
                                             IV.int IntKind.i64
                                               (IntKind.i64.wrap (g (List.take (2 : Nat) (List.drop (4 : Nat) l)))),
                                             IV.int IntKind.u32
                                               (IntKind.u32.wrap (g (List.take (4 : Nat) (List.drop (8 : Nat) l)))),
                                             IV.int IntKind.u32
                                               (IntKind.u32.wrap (g (List.take (4 : Nat) (List.drop (12 : Nat) l)))),
                                             IV.fsl (some true) true (nat_lit 0) [],
                                             IV.fsl (some true) true (nat_lit 0) []],
                                         IV.bool false],
                                     [])
                             else none
                           else none
                         else none
                       else none
                     else none
                   else none
                 else none
               else none
             else none
           else none
         else none
       else none
     else none
   else none) := by kernel_rfl
end Go.Proofs.Ytgbddcdpbgaojaa
