/- A packet is read: what the given program does. It bears no condition. -/
import Derived.Test.YtgbddcdpbgaojaaAwU
-- FOLDS AwS.src.lean
-- FOLD (byI l 0) <= (intOf (nthD (nthD l (0 : Nat)).cells (0 : Nat)))
-- FOLD (byI l 1) <= (intOf (nthD (nthD l (1 : Nat)).cells (0 : Nat)))
-- FOLD (byI l 2) <= (intOf (nthD (nthD l (2 : Nat)).cells (0 : Nat)))
-- FOLD (byI l 3) <= (intOf (nthD (nthD l (3 : Nat)).cells (0 : Nat)))
-- SUB (b0 : Bool)  => 
-- SUB cstF b0 => oneF (rdV l) (rdB (hdP g l) l [] 48 48 0 0)
-- SUB b0 => sameS (rdV l) (rdB (hdP g l) l [] 48 48 0 0)
namespace Go.Proofs.Ytgbddcdpbgaojaa
open Go Go.Im
noncomputable section
/-- A packet's head, as it is read. -/
def hdP (g : List IV → Int) (l : List IV) : PK := ⟨IntKind.i64.wrap ((byI l 0).fdiv ((2 : Int) ^ (6 : Nat))), IntKind.i64.wrap (ibits .and .u8 ((byI l 0).fdiv ((2 : Int) ^ (3 : Nat))) 7), IntKind.i64.wrap (ibits .and .u8 (byI l 0) 7), IntKind.i64.wrap (byI l 1), IntKind.i64.wrap (byI l 2), IntKind.i64.wrap (IntKind.i8.wrap (byI l 3)),
  IntKind.u32.wrap (g (List.take 4 (List.drop 4 l))), IntKind.u32.wrap (g (List.take 4 (List.drop 8 l))), IntKind.u32.wrap (g (List.take 4 (List.drop 12 l))), g (List.take 8 (List.drop 16 l)), g (List.take 8 (List.drop 24 l)), g (List.take 8 (List.drop 32 l)), g (List.take 8 (List.drop 40 l)), none, false, 8, [], false, 0, some true, true, 0, []⟩
end
abbrev reT (c : List IV → Bool) (g : List IV → Int) (fC : List IV → Bool) (x : List IV → XV) (ok : List IV → Bool) (cC : Nat → List IV → Bool) : FuncId → Option SpecF := tab [(42, getP c g), (44, frP fC x ok), (45, cloneP cC)]
theorem rd_x (l : List IV) (c : List IV → Bool) (g : List IV → Int) (fC : List IV → Bool) (x : List IV → XV) (ok : List IV → Bool) (cC : Nat → List IV → Bool) : C (reT c g fC x ok cC) 36 [.fsl none false 1 l] =
  (bif decide ((↑l.length : Int) > (8192 : Int)) then
     some
       (IV.tup
           [IV.agg
               zPK.cells,
             IV.int IntKind.i64 (0 : Int), IV.agg [IV.int IntKind.i64 (0 : Int), IV.int IntKind.i64 (2 : Int)]],
         [])
   else
     bif decide ((↑l.length : Int) < (48 : Int)) then
       some
         (IV.tup
             [IV.agg
                 zPK.cells,
               IV.int IntKind.i64 (0 : Int), IV.agg [IV.int IntKind.i64 (↑l.length : Int), IV.int IntKind.i64 (72 : Int)]],
           [])
     else
       bif decide ((1 : Nat) = (1 : Nat) ∧ (0 : Int) ≤ (0 : Int) ∧ (0 : Int) < (↑l.length : Int)) then
         bif isOf (LT.i IntKind.u8) (nthD (nthD l (0 : Nat)).cells (0 : Nat)) then
           bif decide ((1 : Nat) = (1 : Nat) ∧ (0 : Int) ≤ (0 : Int) ∧ (0 : Int) < (↑l.length : Int)) then
             bif isOf (LT.i IntKind.u8) (nthD (nthD l (0 : Nat)).cells (0 : Nat)) then
               bif decide ((1 : Nat) = (1 : Nat) ∧ (0 : Int) ≤ (0 : Int) ∧ (0 : Int) < (↑l.length : Int)) then
                 bif isOf (LT.i IntKind.u8) (nthD (nthD l (0 : Nat)).cells (0 : Nat)) then
                   bif decide ((1 : Nat) = (1 : Nat) ∧ (0 : Int) ≤ (1 : Int) ∧ (1 : Int) < (↑l.length : Int)) then
                     bif isOf (LT.i IntKind.u8) (nthD (nthD l (1 : Nat)).cells (0 : Nat)) then
                       bif decide ((1 : Nat) = (1 : Nat) ∧ (0 : Int) ≤ (2 : Int) ∧ (2 : Int) < (↑l.length : Int)) then
                         bif isOf (LT.i IntKind.u8) (nthD (nthD l (2 : Nat)).cells (0 : Nat)) then
                           bif decide ((1 : Nat) = (1 : Nat) ∧ (0 : Int) ≤ (3 : Int) ∧ (3 : Int) < (↑l.length : Int)) then
                             bif isOf (LT.i IntKind.u8) (nthD (nthD l (3 : Nat)).cells (0 : Nat)) then
                               bif
                                   bif
                                       bif
                                           IntKind.i64.wrap
                                               (ibits BinOp.and IntKind.u8
                                                 ((byI l 0).fdiv
                                                   ((2 : Int) ^ (3 : Nat)))
                                                 (7 : Int)) !=
                                             (4 : Int) then
                                         true
                                       else
                                         decide
                                           (IntKind.i64.wrap
                                               (ibits BinOp.and IntKind.u8
                                                 (byI l 0) (7 : Int)) <
                                             (1 : Int)) then
                                     true
                                   else
                                     decide
                                       (IntKind.i64.wrap
                                           (ibits BinOp.and IntKind.u8 (byI l 0)
                                             (7 : Int)) >
                                         (5 : Int)) then
                                 some
                                   (IV.tup
                                       [IV.agg
                                           zPK.cells,
                                         IV.int IntKind.i64 (0 : Int),
                                         IV.agg [IV.int IntKind.i64 (0 : Int), IV.int IntKind.i64 (100 : Int)]],
                                     [])
                               else
                                 bif
                                     decide
                                       (IntKind.i64.wrap (byI l 1) >
                                         (16 : Int)) then
                                   some
                                     (IV.tup
                                         [IV.agg
                                             zPK.cells,
                                           IV.int IntKind.i64 (0 : Int),
                                           IV.agg [IV.int IntKind.i64 (1 : Int), IV.int IntKind.i64 (100 : Int)]],
                                       [])
                                 else
                                   bif
                                       decide
                                         (IntKind.i64.wrap (byI l 2) >
                                           (17 : Int)) then
                                     some
                                       (IV.tup
                                           [IV.agg
                                               zPK.cells,
                                             IV.int IntKind.i64 (0 : Int),
                                             IV.agg [IV.int IntKind.i64 (2 : Int), IV.int IntKind.i64 (100 : Int)]],
                                         [])
                                   else
                                     bif
                                         decide
                                           ((0 : Int) ≤ (4 : Int) ∧
                                             (4 : Int) ≤ (8 : Int) ∧ (8 : Int) ≤ (↑l.length : Int)) then
                                       bif c (List.take (4 : Nat) (List.drop (4 : Nat) l)) then
                                         bif
                                             decide
                                               ((0 : Int) ≤ (8 : Int) ∧
                                                 (8 : Int) ≤ (12 : Int) ∧ (12 : Int) ≤ (↑l.length : Int)) then
                                           bif c (List.take (4 : Nat) (List.drop (8 : Nat) l)) then
                                             bif
                                                 decide
                                                   ((0 : Int) ≤ (12 : Int) ∧
                                                     (12 : Int) ≤ (16 : Int) ∧ (16 : Int) ≤ (↑l.length : Int)) then
                                               bif c (List.take (4 : Nat) (List.drop (12 : Nat) l)) then
                                                 bif
                                                     decide
                                                       ((0 : Int) ≤ (16 : Int) ∧
                                                         (16 : Int) ≤ (24 : Int) ∧ (24 : Int) ≤ (↑l.length : Int)) then
                                                   bif c (List.take (8 : Nat) (List.drop (16 : Nat) l)) then
                                                     bif
                                                         decide
                                                           ((0 : Int) ≤ (24 : Int) ∧
                                                             (24 : Int) ≤ (32 : Int) ∧ (32 : Int) ≤ (↑l.length : Int)) then
                                                       bif c (List.take (8 : Nat) (List.drop (24 : Nat) l)) then
                                                         bif
                                                             decide
                                                               ((0 : Int) ≤ (32 : Int) ∧
                                                                 (32 : Int) ≤ (40 : Int) ∧
                                                                   (40 : Int) ≤ (↑l.length : Int)) then
                                                           bif c (List.take (8 : Nat) (List.drop (32 : Nat) l)) then
                                                             bif
                                                                 decide
                                                                   ((0 : Int) ≤ (40 : Int) ∧
                                                                     (40 : Int) ≤ (48 : Int) ∧
                                                                       (48 : Int) ≤ (↑l.length : Int)) then
                                                               bif c (List.take (8 : Nat) (List.drop (40 : Nat) l)) then
                                                                 none
                                                               else none
                                                             else none
                                                           else none
                                                         else none
                                                       else none
                                                     else none
                                                   else none
                                                 else none
                                               else none
                                             else none
                                           else none
                                         else none
                                       else none
                                     else none
                             else none
                           else none
                         else none
                       else none
                     else none
                   else none
                 else none
               else none
             else none
           else none
         else none
       else none) := by kernel_rfl
theorem rd_ok (l es : List IV) (k : Int) (c : List IV → Bool) (g : List IV → Int) (fC : List IV → Bool) (x : List IV → XV) (ok : List IV → Bool) (cC : Nat → List IV → Bool) : Cb (reT c g fC x ok cC) (ltab [(36, 8186, LF 36 0 (oneF (rdV l) (rdB (hdP g l) l [] 48 48 0 0) .normal (rdV l) (rdB (hdP g l) l es k k 0 0)))]) 36 [.fsl none false 1 l] [] =
  (bif decide ((↑l.length : Int) > (8192 : Int)) then
     some
       (IV.tup
           [IV.agg
               zPK.cells,
             IV.int IntKind.i64 (0 : Int), IV.agg [IV.int IntKind.i64 (0 : Int), IV.int IntKind.i64 (2 : Int)]],
         [])
   else
     bif decide ((↑l.length : Int) < (48 : Int)) then
       some
         (IV.tup
             [IV.agg
                 zPK.cells,
               IV.int IntKind.i64 (0 : Int), IV.agg [IV.int IntKind.i64 (↑l.length : Int), IV.int IntKind.i64 (72 : Int)]],
           [])
     else
       bif decide ((1 : Nat) = (1 : Nat) ∧ (0 : Int) ≤ (0 : Int) ∧ (0 : Int) < (↑l.length : Int)) then
         bif isOf (LT.i IntKind.u8) (nthD (nthD l (0 : Nat)).cells (0 : Nat)) then
           bif decide ((1 : Nat) = (1 : Nat) ∧ (0 : Int) ≤ (0 : Int) ∧ (0 : Int) < (↑l.length : Int)) then
             bif isOf (LT.i IntKind.u8) (nthD (nthD l (0 : Nat)).cells (0 : Nat)) then
               bif decide ((1 : Nat) = (1 : Nat) ∧ (0 : Int) ≤ (0 : Int) ∧ (0 : Int) < (↑l.length : Int)) then
                 bif isOf (LT.i IntKind.u8) (nthD (nthD l (0 : Nat)).cells (0 : Nat)) then
                   bif decide ((1 : Nat) = (1 : Nat) ∧ (0 : Int) ≤ (1 : Int) ∧ (1 : Int) < (↑l.length : Int)) then
                     bif isOf (LT.i IntKind.u8) (nthD (nthD l (1 : Nat)).cells (0 : Nat)) then
                       bif decide ((1 : Nat) = (1 : Nat) ∧ (0 : Int) ≤ (2 : Int) ∧ (2 : Int) < (↑l.length : Int)) then
                         bif isOf (LT.i IntKind.u8) (nthD (nthD l (2 : Nat)).cells (0 : Nat)) then
                           bif decide ((1 : Nat) = (1 : Nat) ∧ (0 : Int) ≤ (3 : Int) ∧ (3 : Int) < (↑l.length : Int)) then
                             bif isOf (LT.i IntKind.u8) (nthD (nthD l (3 : Nat)).cells (0 : Nat)) then
                               bif
                                   bif
                                       bif
                                           IntKind.i64.wrap
                                               (ibits BinOp.and IntKind.u8
                                                 ((byI l 0).fdiv
                                                   ((2 : Int) ^ (3 : Nat)))
                                                 (7 : Int)) !=
                                             (4 : Int) then
                                         true
                                       else
                                         decide
                                           (IntKind.i64.wrap
                                               (ibits BinOp.and IntKind.u8
                                                 (byI l 0) (7 : Int)) <
                                             (1 : Int)) then
                                     true
                                   else
                                     decide
                                       (IntKind.i64.wrap
                                           (ibits BinOp.and IntKind.u8 (byI l 0)
                                             (7 : Int)) >
                                         (5 : Int)) then
                                 some
                                   (IV.tup
                                       [IV.agg
                                           zPK.cells,
                                         IV.int IntKind.i64 (0 : Int),
                                         IV.agg [IV.int IntKind.i64 (0 : Int), IV.int IntKind.i64 (100 : Int)]],
                                     [])
                               else
                                 bif
                                     decide
                                       (IntKind.i64.wrap (byI l 1) >
                                         (16 : Int)) then
                                   some
                                     (IV.tup
                                         [IV.agg
                                             zPK.cells,
                                           IV.int IntKind.i64 (0 : Int),
                                           IV.agg [IV.int IntKind.i64 (1 : Int), IV.int IntKind.i64 (100 : Int)]],
                                       [])
                                 else
                                   bif
                                       decide
                                         (IntKind.i64.wrap (byI l 2) >
                                           (17 : Int)) then
                                     some
                                       (IV.tup
                                           [IV.agg
                                               zPK.cells,
                                             IV.int IntKind.i64 (0 : Int),
                                             IV.agg [IV.int IntKind.i64 (2 : Int), IV.int IntKind.i64 (100 : Int)]],
                                         [])
                                   else
                                     bif
                                         decide
                                           ((0 : Int) ≤ (4 : Int) ∧
                                             (4 : Int) ≤ (8 : Int) ∧ (8 : Int) ≤ (↑l.length : Int)) then
                                       bif c (List.take (4 : Nat) (List.drop (4 : Nat) l)) then
                                         bif
                                             decide
                                               ((0 : Int) ≤ (8 : Int) ∧
                                                 (8 : Int) ≤ (12 : Int) ∧ (12 : Int) ≤ (↑l.length : Int)) then
                                           bif c (List.take (4 : Nat) (List.drop (8 : Nat) l)) then
                                             bif
                                                 decide
                                                   ((0 : Int) ≤ (12 : Int) ∧
                                                     (12 : Int) ≤ (16 : Int) ∧ (16 : Int) ≤ (↑l.length : Int)) then
                                               bif c (List.take (4 : Nat) (List.drop (12 : Nat) l)) then
                                                 bif
                                                     decide
                                                       ((0 : Int) ≤ (16 : Int) ∧
                                                         (16 : Int) ≤ (24 : Int) ∧ (24 : Int) ≤ (↑l.length : Int)) then
                                                   bif c (List.take (8 : Nat) (List.drop (16 : Nat) l)) then
                                                     bif
                                                         decide
                                                           ((0 : Int) ≤ (24 : Int) ∧
                                                             (24 : Int) ≤ (32 : Int) ∧ (32 : Int) ≤ (↑l.length : Int)) then
                                                       bif c (List.take (8 : Nat) (List.drop (24 : Nat) l)) then
                                                         bif
                                                             decide
                                                               ((0 : Int) ≤ (32 : Int) ∧
                                                                 (32 : Int) ≤ (40 : Int) ∧
                                                                   (40 : Int) ≤ (↑l.length : Int)) then
                                                           bif c (List.take (8 : Nat) (List.drop (32 : Nat) l)) then
                                                             bif
                                                                 decide
                                                                   ((0 : Int) ≤ (40 : Int) ∧
                                                                     (40 : Int) ≤ (48 : Int) ∧
                                                                       (48 : Int) ≤ (↑l.length : Int)) then
                                                               bif c (List.take (8 : Nat) (List.drop (40 : Nat) l)) then
                                                                 bif sameS (rdV l) (rdB (hdP g l) l [] 48 48 0 0) then
                                                                   bif
                                                                       IntKind.i64.wrap ((↑l.length : Int) - k) ==
                                                                         (0 : Int) then
                                                                     some
                                                                       (IV.tup
                                                                           [IV.agg
                                                                               [IV.int IntKind.i64 (hdP g l).le,
                                                                                 IV.int IntKind.i64 (hdP g l).ve,
                                                                                 IV.int IntKind.i64 (hdP g l).mo,
                                                                                 IV.int IntKind.i64 (hdP g l).st,
                                                                                 IV.int IntKind.i64 (hdP g l).po,
                                                                                 IV.int IntKind.i64 (hdP g l).pr,
                                                                                 IV.int IntKind.u32 (hdP g l).de,
                                                                                 IV.int IntKind.u32 (hdP g l).di,
                                                                                 IV.int IntKind.u32 (hdP g l).ri,
                                                                                 IV.int IntKind.u64 (hdP g l).rf,
                                                                                 IV.int IntKind.u64 (hdP g l).og,
                                                                                 IV.int IntKind.u64 (hdP g l).rc,
                                                                                 IV.int IntKind.u64 (hdP g l).xm,
                                                                                 IV.osl (nat_lit 0) (nat_lit 0),
                                                                                 IV.bool false,
                                                                                 IV.int IntKind.u32 (hdP g l).ky,
                                                                                 IV.fsl (some true) true (nat_lit 0) []],
                                                                             IV.int IntKind.i64 k,
                                                                             IV.agg
                                                                               [IV.int IntKind.i64 (0 : Int),
                                                                                 IV.int IntKind.i64 (0 : Int)]],
                                                                         [Blk.row (nat_lit 0) false (nat_lit 8) es])
                                                                   else
                                                                     bif
                                                                         IntKind.i64.wrap ((↑l.length : Int) - k) ==
                                                                           (4 : Int) then
                                                                       bif
                                                                           decide
                                                                             ((0 : Int) ≤ k ∧
                                                                               k ≤ IntKind.i64.wrap (k + (4 : Int)) ∧
                                                                                 IntKind.i64.wrap (k + (4 : Int)) ≤
                                                                                   (↑l.length : Int)) then
                                                                         bif
                                                                             c
                                                                               (List.take
                                                                                 ((IntKind.i64.wrap
                                                                                       (k + (4 : Int))).toNat -
                                                                                   k.toNat)
                                                                                 (List.drop k.toNat l)) then
                                                                           bif
                                                                               decide
                                                                                 ((0 : Int) ≤
                                                                                     IntKind.i64.wrap (k + (4 : Int)) ∧
                                                                                   IntKind.i64.wrap (k + (4 : Int)) ≤
                                                                                       (↑l.length : Int) ∧
                                                                                     (↑l.length : Int) ≤
                                                                                       (↑l.length : Int)) then
                                                                             bif
                                                                                 cC (1 : Nat)
                                                                                   (List.take
                                                                                     ((↑l.length : Int).toNat -
                                                                                       (IntKind.i64.wrap
                                                                                           (k + (4 : Int))).toNat)
                                                                                     (List.drop
                                                                                       (IntKind.i64.wrap
                                                                                           (k + (4 : Int))).toNat
                                                                                       l)) then
                                                                               some
                                                                                 (IV.tup
                                                                                     [IV.agg
                                                                                         [IV.int IntKind.i64 (hdP g l).le,
                                                                                           IV.int IntKind.i64 (hdP g l).ve,
                                                                                           IV.int IntKind.i64 (hdP g l).mo,
                                                                                           IV.int IntKind.i64 (hdP g l).st,
                                                                                           IV.int IntKind.i64 (hdP g l).po,
                                                                                           IV.int IntKind.i64 (hdP g l).pr,
                                                                                           IV.int IntKind.u32 (hdP g l).de,
                                                                                           IV.int IntKind.u32 (hdP g l).di,
                                                                                           IV.int IntKind.u32 (hdP g l).ri,
                                                                                           IV.int IntKind.u64 (hdP g l).rf,
                                                                                           IV.int IntKind.u64 (hdP g l).og,
                                                                                           IV.int IntKind.u64 (hdP g l).rc,
                                                                                           IV.int IntKind.u64 (hdP g l).xm,
                                                                                           IV.osl (nat_lit 0) (nat_lit 0),
                                                                                           IV.bool true,
                                                                                           IV.int IntKind.u32
                                                                                             (IntKind.u32.wrap
                                                                                               (g
                                                                                                 (List.take
                                                                                                   ((IntKind.i64.wrap
                                                                                                         (k +
                                                                                                           (4 :
                                                                                                             Int))).toNat -
                                                                                                     k.toNat)
                                                                                                   (List.drop k.toNat
                                                                                                     l)))),
                                                                                           IV.fsl none false (nat_lit 1)
                                                                                             (List.take
                                                                                               ((↑l.length : Int).toNat -
                                                                                                 (IntKind.i64.wrap
                                                                                                     (k +
                                                                                                       (4 : Int))).toNat)
                                                                                               (List.drop
                                                                                                 (IntKind.i64.wrap
                                                                                                     (k + (4 : Int))).toNat
                                                                                                 l))],
                                                                                       IV.int IntKind.i64 k,
                                                                                       IV.agg
                                                                                         [IV.int IntKind.i64 (0 : Int),
                                                                                           IV.int IntKind.i64 (0 : Int)]],
                                                                                   [Blk.row (nat_lit 0) false (nat_lit 8)
                                                                                       es])
                                                                             else none
                                                                           else none
                                                                         else none
                                                                       else none
                                                                     else
                                                                       bif
                                                                           IntKind.i64.wrap ((↑l.length : Int) - k) ==
                                                                             (20 : Int) then
                                                                         bif
                                                                             decide
                                                                               ((0 : Int) ≤ k ∧
                                                                                 k ≤ IntKind.i64.wrap (k + (4 : Int)) ∧
                                                                                   IntKind.i64.wrap (k + (4 : Int)) ≤
                                                                                     (↑l.length : Int)) then
                                                                           bif
                                                                               c
                                                                                 (List.take
                                                                                   ((IntKind.i64.wrap
                                                                                         (k + (4 : Int))).toNat -
                                                                                     k.toNat)
                                                                                   (List.drop k.toNat l)) then
                                                                             bif
                                                                                 decide
                                                                                   ((0 : Int) ≤
                                                                                       IntKind.i64.wrap (k + (4 : Int)) ∧
                                                                                     IntKind.i64.wrap (k + (4 : Int)) ≤
                                                                                         (↑l.length : Int) ∧
                                                                                       (↑l.length : Int) ≤
                                                                                         (↑l.length : Int)) then
                                                                               bif
                                                                                   cC (1 : Nat)
                                                                                     (List.take
                                                                                       ((↑l.length : Int).toNat -
                                                                                         (IntKind.i64.wrap
                                                                                             (k + (4 : Int))).toNat)
                                                                                       (List.drop
                                                                                         (IntKind.i64.wrap
                                                                                             (k + (4 : Int))).toNat
                                                                                         l)) then
                                                                                 some
                                                                                   (IV.tup
                                                                                       [IV.agg
                                                                                           [IV.int IntKind.i64
                                                                                               (hdP g l).le,
                                                                                             IV.int IntKind.i64
                                                                                               (hdP g l).ve,
                                                                                             IV.int IntKind.i64
                                                                                               (hdP g l).mo,
                                                                                             IV.int IntKind.i64
                                                                                               (hdP g l).st,
                                                                                             IV.int IntKind.i64
                                                                                               (hdP g l).po,
                                                                                             IV.int IntKind.i64
                                                                                               (hdP g l).pr,
                                                                                             IV.int IntKind.u32
                                                                                               (hdP g l).de,
                                                                                             IV.int IntKind.u32
                                                                                               (hdP g l).di,
                                                                                             IV.int IntKind.u32
                                                                                               (hdP g l).ri,
                                                                                             IV.int IntKind.u64
                                                                                               (hdP g l).rf,
                                                                                             IV.int IntKind.u64
                                                                                               (hdP g l).og,
                                                                                             IV.int IntKind.u64
                                                                                               (hdP g l).rc,
                                                                                             IV.int IntKind.u64
                                                                                               (hdP g l).xm,
                                                                                             IV.osl (nat_lit 0)
                                                                                               (nat_lit 0),
                                                                                             IV.bool true,
                                                                                             IV.int IntKind.u32
                                                                                               (IntKind.u32.wrap
                                                                                                 (g
                                                                                                   (List.take
                                                                                                     ((IntKind.i64.wrap
                                                                                                           (k +
                                                                                                             (4 :
                                                                                                               Int))).toNat -
                                                                                                       k.toNat)
                                                                                                     (List.drop k.toNat
                                                                                                       l)))),
                                                                                             IV.fsl none false (nat_lit 1)
                                                                                               (List.take
                                                                                                 ((↑l.length : Int).toNat -
                                                                                                   (IntKind.i64.wrap
                                                                                                       (k +
                                                                                                         (4 : Int))).toNat)
                                                                                                 (List.drop
                                                                                                   (IntKind.i64.wrap
                                                                                                       (k +
                                                                                                         (4 : Int))).toNat
                                                                                                   l))],
                                                                                         IV.int IntKind.i64 k,
                                                                                         IV.agg
                                                                                           [IV.int IntKind.i64 (0 : Int),
                                                                                             IV.int IntKind.i64
                                                                                               (0 : Int)]],
                                                                                     [Blk.row (nat_lit 0) false (nat_lit 8)
                                                                                         es])
                                                                               else none
                                                                             else none
                                                                           else none
                                                                         else none
                                                                       else
                                                                         some
                                                                           (IV.tup
                                                                               [IV.agg
                                                                                   zPK.cells,
                                                                                 IV.int IntKind.i64 (0 : Int),
                                                                                 IV.agg
                                                                                   [IV.int IntKind.i64 k,
                                                                                     IV.int IntKind.i64 (102 : Int)]],
                                                                             [])
                                                                 else none
                                                               else none
                                                             else none
                                                           else none
                                                         else none
                                                       else none
                                                     else none
                                                   else none
                                                 else none
                                               else none
                                             else none
                                           else none
                                         else none
                                       else none
                                     else none
                             else none
                           else none
                         else none
                       else none
                     else none
                   else none
                 else none
               else none
             else none
           else none
         else none
       else none) := by kernel_rfl
theorem rd_no (l es : List IV) (k : Int) (c : List IV → Bool) (g : List IV → Int) (fC : List IV → Bool) (x : List IV → XV) (ok : List IV → Bool) (cC : Nat → List IV → Bool) : Cb (reT c g fC x ok cC) (ltab [(36, 8186, LF 36 0 (oneF (rdV l) (rdB (hdP g l) l [] 48 48 0 0) .ret (rdV l) (rdB (hdP g l) l es k k k 101)))]) 36 [.fsl none false 1 l] [] =
  (bif decide ((↑l.length : Int) > (8192 : Int)) then
     some
       (IV.tup
           [IV.agg
               zPK.cells,
             IV.int IntKind.i64 (0 : Int), IV.agg [IV.int IntKind.i64 (0 : Int), IV.int IntKind.i64 (2 : Int)]],
         [])
   else
     bif decide ((↑l.length : Int) < (48 : Int)) then
       some
         (IV.tup
             [IV.agg
                 zPK.cells,
               IV.int IntKind.i64 (0 : Int), IV.agg [IV.int IntKind.i64 (↑l.length : Int), IV.int IntKind.i64 (72 : Int)]],
           [])
     else
       bif decide ((1 : Nat) = (1 : Nat) ∧ (0 : Int) ≤ (0 : Int) ∧ (0 : Int) < (↑l.length : Int)) then
         bif isOf (LT.i IntKind.u8) (nthD (nthD l (0 : Nat)).cells (0 : Nat)) then
           bif decide ((1 : Nat) = (1 : Nat) ∧ (0 : Int) ≤ (0 : Int) ∧ (0 : Int) < (↑l.length : Int)) then
             bif isOf (LT.i IntKind.u8) (nthD (nthD l (0 : Nat)).cells (0 : Nat)) then
               bif decide ((1 : Nat) = (1 : Nat) ∧ (0 : Int) ≤ (0 : Int) ∧ (0 : Int) < (↑l.length : Int)) then
                 bif isOf (LT.i IntKind.u8) (nthD (nthD l (0 : Nat)).cells (0 : Nat)) then
                   bif decide ((1 : Nat) = (1 : Nat) ∧ (0 : Int) ≤ (1 : Int) ∧ (1 : Int) < (↑l.length : Int)) then
                     bif isOf (LT.i IntKind.u8) (nthD (nthD l (1 : Nat)).cells (0 : Nat)) then
                       bif decide ((1 : Nat) = (1 : Nat) ∧ (0 : Int) ≤ (2 : Int) ∧ (2 : Int) < (↑l.length : Int)) then
                         bif isOf (LT.i IntKind.u8) (nthD (nthD l (2 : Nat)).cells (0 : Nat)) then
                           bif decide ((1 : Nat) = (1 : Nat) ∧ (0 : Int) ≤ (3 : Int) ∧ (3 : Int) < (↑l.length : Int)) then
                             bif isOf (LT.i IntKind.u8) (nthD (nthD l (3 : Nat)).cells (0 : Nat)) then
                               bif
                                   bif
                                       bif
                                           IntKind.i64.wrap
                                               (ibits BinOp.and IntKind.u8
                                                 ((byI l 0).fdiv
                                                   ((2 : Int) ^ (3 : Nat)))
                                                 (7 : Int)) !=
                                             (4 : Int) then
                                         true
                                       else
                                         decide
                                           (IntKind.i64.wrap
                                               (ibits BinOp.and IntKind.u8
                                                 (byI l 0) (7 : Int)) <
                                             (1 : Int)) then
                                     true
                                   else
                                     decide
                                       (IntKind.i64.wrap
                                           (ibits BinOp.and IntKind.u8 (byI l 0)
                                             (7 : Int)) >
                                         (5 : Int)) then
                                 some
                                   (IV.tup
                                       [IV.agg
                                           zPK.cells,
                                         IV.int IntKind.i64 (0 : Int),
                                         IV.agg [IV.int IntKind.i64 (0 : Int), IV.int IntKind.i64 (100 : Int)]],
                                     [])
                               else
                                 bif
                                     decide
                                       (IntKind.i64.wrap (byI l 1) >
                                         (16 : Int)) then
                                   some
                                     (IV.tup
                                         [IV.agg
                                             zPK.cells,
                                           IV.int IntKind.i64 (0 : Int),
                                           IV.agg [IV.int IntKind.i64 (1 : Int), IV.int IntKind.i64 (100 : Int)]],
                                       [])
                                 else
                                   bif
                                       decide
                                         (IntKind.i64.wrap (byI l 2) >
                                           (17 : Int)) then
                                     some
                                       (IV.tup
                                           [IV.agg
                                               zPK.cells,
                                             IV.int IntKind.i64 (0 : Int),
                                             IV.agg [IV.int IntKind.i64 (2 : Int), IV.int IntKind.i64 (100 : Int)]],
                                         [])
                                   else
                                     bif
                                         decide
                                           ((0 : Int) ≤ (4 : Int) ∧
                                             (4 : Int) ≤ (8 : Int) ∧ (8 : Int) ≤ (↑l.length : Int)) then
                                       bif c (List.take (4 : Nat) (List.drop (4 : Nat) l)) then
                                         bif
                                             decide
                                               ((0 : Int) ≤ (8 : Int) ∧
                                                 (8 : Int) ≤ (12 : Int) ∧ (12 : Int) ≤ (↑l.length : Int)) then
                                           bif c (List.take (4 : Nat) (List.drop (8 : Nat) l)) then
                                             bif
                                                 decide
                                                   ((0 : Int) ≤ (12 : Int) ∧
                                                     (12 : Int) ≤ (16 : Int) ∧ (16 : Int) ≤ (↑l.length : Int)) then
                                               bif c (List.take (4 : Nat) (List.drop (12 : Nat) l)) then
                                                 bif
                                                     decide
                                                       ((0 : Int) ≤ (16 : Int) ∧
                                                         (16 : Int) ≤ (24 : Int) ∧ (24 : Int) ≤ (↑l.length : Int)) then
                                                   bif c (List.take (8 : Nat) (List.drop (16 : Nat) l)) then
                                                     bif
                                                         decide
                                                           ((0 : Int) ≤ (24 : Int) ∧
                                                             (24 : Int) ≤ (32 : Int) ∧ (32 : Int) ≤ (↑l.length : Int)) then
                                                       bif c (List.take (8 : Nat) (List.drop (24 : Nat) l)) then
                                                         bif
                                                             decide
                                                               ((0 : Int) ≤ (32 : Int) ∧
                                                                 (32 : Int) ≤ (40 : Int) ∧
                                                                   (40 : Int) ≤ (↑l.length : Int)) then
                                                           bif c (List.take (8 : Nat) (List.drop (32 : Nat) l)) then
                                                             bif
                                                                 decide
                                                                   ((0 : Int) ≤ (40 : Int) ∧
                                                                     (40 : Int) ≤ (48 : Int) ∧
                                                                       (48 : Int) ≤ (↑l.length : Int)) then
                                                               bif c (List.take (8 : Nat) (List.drop (40 : Nat) l)) then
                                                                 bif sameS (rdV l) (rdB (hdP g l) l [] 48 48 0 0) then
                                                                   some
                                                                     (IV.tup
                                                                         [IV.agg
                                                                             zPK.cells,
                                                                           IV.int IntKind.i64 (0 : Int),
                                                                           IV.agg
                                                                             [IV.int IntKind.i64 k,
                                                                               IV.int IntKind.i64 (101 : Int)]],
                                                                       [])
                                                                 else none
                                                               else none
                                                             else none
                                                           else none
                                                         else none
                                                       else none
                                                     else none
                                                   else none
                                                 else none
                                               else none
                                             else none
                                           else none
                                         else none
                                       else none
                                     else none
                             else none
                           else none
                         else none
                       else none
                     else none
                   else none
                 else none
               else none
             else none
           else none
         else none
       else none) := by kernel_rfl
end Go.Proofs.Ytgbddcdpbgaojaa
