/- The fields of a packet are gone through: what the given program does. It bears no condition. -/
import Derived.Test.YtgbddcdpbgaojaaAwR
import Derived.Test.YtgbddcdpbgaojaaIm4
-- FOLDS AwC.src.lean
-- FOLD (rowN b l) <= (List.take ((IntKind.i64.wrap (b + (4 : Int))).toNat - (IntKind.i64.wrap (b + (2 : Int))).toNat) (List.drop (IntKind.i64.wrap (b + (2 : Int))).toNat l))
-- FOLD (numN g b l) <= (IntKind.i64.wrap (g (rowN b l)))
-- FOLD numN g b l <= IntKind.i64.wrap (g (rowN b l))
-- FOLD (rowX g b l) <= (List.take ((IntKind.i64.wrap (b + numN g b l)).toNat - b.toNat) (List.drop b.toNat l))
-- FOLD zPK.cells <= [IV.int IntKind.i64 zPK.le, IV.int IntKind.i64 zPK.ve, IV.int IntKind.i64 zPK.mo, IV.int IntKind.i64 zPK.st, IV.int IntKind.i64 zPK.po, IV.int IntKind.i64 zPK.pr, IV.int IntKind.u32 zPK.de, IV.int IntKind.u32 zPK.di, IV.int IntKind.u32 zPK.ri, IV.int IntKind.u64 zPK.rf, IV.int IntKind.u64 zPK.og, IV.int IntKind.u64 zPK.rc, IV.int IntKind.u64 zPK.xm, IV.fsl (some true) true (nat_lit 0) [], IV.bool false, IV.int IntKind.u32 zPK.ky, IV.fsl (some true) true (nat_lit 0) []]
-- FOLD zPK.cells <= [IV.int IntKind.i64 (0 : Int), IV.int IntKind.i64 (0 : Int), IV.int IntKind.i64 (0 : Int), IV.int IntKind.i64 (0 : Int), IV.int IntKind.i64 (0 : Int), IV.int IntKind.i64 (0 : Int), IV.int IntKind.u32 (0 : Int), IV.int IntKind.u32 (0 : Int), IV.int IntKind.u32 (0 : Int), IV.int IntKind.u64 (0 : Int), IV.int IntKind.u64 (0 : Int), IV.int IntKind.u64 (0 : Int), IV.int IntKind.u64 (0 : Int), IV.fsl (some true) true (nat_lit 0) [], IV.bool false, IV.int IntKind.u32 (0 : Int), IV.fsl (some true) true (nat_lit 0) []]
-- FOLD $.cells8 <= [IV.int IntKind.i64 $.le, IV.int IntKind.i64 $.ve, IV.int IntKind.i64 $.mo, IV.int IntKind.i64 $.st, IV.int IntKind.i64 $.po, IV.int IntKind.i64 $.pr, IV.int IntKind.u32 $.de, IV.int IntKind.u32 $.di, IV.int IntKind.u32 $.ri, IV.int IntKind.u64 $.rf, IV.int IntKind.u64 $.og, IV.int IntKind.u64 $.rc, IV.int IntKind.u64 $.xm, IV.osl (nat_lit 8) (nat_lit 0), IV.bool $.ha, IV.int IntKind.u32 $.ky, IV.fsl $.n2 $.c2 $.z2 $.su]
-- FOLD $.cells8' <= [IV.int IntKind.i64 $.le, IV.int IntKind.i64 $.ve, IV.int IntKind.i64 $.mo, IV.int IntKind.i64 $.st, IV.int IntKind.i64 $.po, IV.int IntKind.i64 $.pr, IV.int IntKind.u32 $.de, IV.int IntKind.u32 $.di, IV.int IntKind.u32 $.ri, IV.int IntKind.u64 $.rf, IV.int IntKind.u64 $.og, IV.int IntKind.u64 $.rc, IV.int IntKind.u64 $.xm, IV.osl (nat_lit 8) (nat_lit 1), IV.bool $.ha, IV.int IntKind.u32 $.ky, IV.fsl $.n2 $.c2 $.z2 $.su]
namespace Go.Proofs.Ytgbddcdpbgaojaa
open Go Go.Im
set_option linter.unusedVariables false
set_option linter.unusedSimpArgs false
def zPK : PK := ⟨0, 0, 0, 0, 0, 0, 0, 0, 0, 0, 0, 0, 0, some true, true, 0, [], false, 0, some true, true, 0, []⟩
def PK.cells8 (p : PK) : List IV := [.int .i64 p.le, .int .i64 p.ve, .int .i64 p.mo, .int .i64 p.st, .int .i64 p.po, .int .i64 p.pr, .int .u32 p.de, .int .u32 p.di, .int .u32 p.ri, .int .u64 p.rf, .int .u64 p.og, .int .u64 p.rc, .int .u64 p.xm,
  .osl 8 0, .bool p.ha, .int .u32 p.ky, .fsl p.n2 p.c2 p.z2 p.su]
def PK.cells8' (p : PK) : List IV := [.int .i64 p.le, .int .i64 p.ve, .int .i64 p.mo, .int .i64 p.st, .int .i64 p.po, .int .i64 p.pr, .int .u32 p.de, .int .u32 p.di, .int .u32 p.ri, .int .u64 p.rf, .int .u64 p.og, .int .u64 p.rc, .int .u64 p.xm,
  .osl 8 1, .bool p.ha, .int .u32 p.ky, .fsl p.n2 p.c2 p.z2 p.su]
abbrev rdV (l : List IV) : List IV := [.fsl none false 1 l, .ptr 0 0, .ptr 1 0, .ptr 2 0, .ptr 3 0, .ptr 4 0, .ptr 5 0, .fn 48 [.ptr 6 0, .ptr 7 0]]
abbrev rdB (p : PK) (l es : List IV) (a b f1 f2 : Int) : List Blk :=
  [.var false zPK.cells, .var false [.int .i64 0], .var false [.int .i64 f1, .int .i64 f2], .var false [.fn 41 []], .var false p.cells8, .var false [.int .i64 a], .var false [.fsl none false 1 l], .var false [.int .i64 b], .row 0 false 8 es]
noncomputable abbrev rdS (p : PK) (l es : List IV) (a b f1 f2 : Int) : St := Sx 36 (rdV l) (rdB p l es a b f1 f2)
abbrev itV : List IV := [.yf 9, .ptr 6 0, .ptr 7 0]
abbrev itB (p : PK) (l es : List IV) (a b : Int) (f1 f2 : Int) (j : LpS) : List Blk :=
  [.var false zPK.cells, .var false [.int .i64 0], .var false [.int .i64 f1, .int .i64 f2], .var false [.fn 41 []], .var false p.cells8', .var false [.int .i64 a], .var false [.fsl none false 1 l], .var false [.int .i64 b], .row 1 false 8 es, .lp j]
noncomputable abbrev itS (p : PK) (l es : List IV) (a b : Int) (f1 f2 : Int) (j : LpS) : St := Sx 48 itV (itB p l es a b f1 f2 j)
def rowN (b : Int) (l : List IV) : List IV := List.take ((IntKind.i64.wrap (b + (4 : Int))).toNat - (IntKind.i64.wrap (b + (2 : Int))).toNat) (List.drop (IntKind.i64.wrap (b + (2 : Int))).toNat l)
def numN (g : List IV → Int) (b : Int) (l : List IV) : Int := IntKind.i64.wrap (g (rowN b l))
def rowX (g : List IV → Int) (b : Int) (l : List IV) : List IV := List.take ((IntKind.i64.wrap (b + numN g b l)).toNat - b.toNat) (List.drop b.toNat l)
theorem it_in (p : PK) (l es es0 : List IV) (a b a0 b0 : Int) (c : List IV → Bool) (g : List IV → Int) (fC : List IV → Bool) (x : List IV → XV) (ok : List IV → Bool) (cC : Nat → List IV → Bool) : roundIK Try.prog hint (tab [(42, getP c g), (44, frP fC x ok), (45, cloneP cC)]) (fun _ _ => none) 30 36 8186 9 ((rdS p l es0 a0 b0 0 0).tm.map calm) 10 48 2 (itS p l es a b 0 0 .ready) =
  (bif decide (IntKind.i64.wrap ((↑l.length : Int) - b) > (20 : Int)) then
     bif decide (IntKind.i64.wrap ((↑l.length : Int) - b) ≥ (24 : Int)) then
       bif
           decide
             ((0 : Int) ≤ IntKind.i64.wrap (b + (2 : Int)) ∧
               IntKind.i64.wrap (b + (2 : Int)) ≤ IntKind.i64.wrap (b + (4 : Int)) ∧
                 IntKind.i64.wrap (b + (4 : Int)) ≤ (↑l.length : Int)) then
         bif
             c
               (rowN b l) then
           bif
               decide
                   (numN g b l <
                     (24 : Int)) ==
                 false then
             bif
                 bif
                     bif false then true
                     else
                       (numN g b l).tmod
                           (4 : Int) !=
                         (0 : Int) then
                   true
                 else
                   decide
                     (numN g b l >
                       IntKind.i64.wrap ((↑l.length : Int) - b)) then
               some
                 (Ex.ret,
                   Sx (48 : Nat) [IV.yf (nat_lit 9), IV.ptr (nat_lit 6) (nat_lit 0), IV.ptr (nat_lit 7) (nat_lit 0)]
                     [Blk.var false
                         zPK.cells,
                       Blk.var false [IV.int IntKind.i64 (0 : Int)],
                       Blk.var false [IV.int IntKind.i64 b, IV.int IntKind.i64 (101 : Int)],
                       Blk.var false [IV.fn (nat_lit 41) []],
                       Blk.var false
                         p.cells8',
                       Blk.var false [IV.int IntKind.i64 a], Blk.var false [IV.fsl none false (nat_lit 1) l],
                       Blk.var false [IV.int IntKind.i64 b], Blk.row (nat_lit 1) false (nat_lit 8) es,
                       Blk.lp (LpS.done Ex.ret)])
             else
               bif
                   decide
                     ((0 : Int) ≤ b ∧
                       b ≤
                           IntKind.i64.wrap
                             (b +
                               numN g b l) ∧
                         IntKind.i64.wrap
                             (b +
                               numN g b l) ≤
                           (↑l.length : Int)) then
                 bif
                     decide
                       ((0 : Nat) <
                         (rowX g b l).length) then
                   bif bif false then true else (↑es.length : Int) == (8 : Int) then
                     some
                       (Ex.ret,
                         Sx (48 : Nat) [IV.yf (nat_lit 9), IV.ptr (nat_lit 6) (nat_lit 0), IV.ptr (nat_lit 7) (nat_lit 0)]
                           [Blk.var false
                               zPK.cells,
                             Blk.var false [IV.int IntKind.i64 (0 : Int)],
                             Blk.var false [IV.int IntKind.i64 b, IV.int IntKind.i64 (101 : Int)],
                             Blk.var false [IV.fn (nat_lit 41) []],
                             Blk.var false
                               p.cells8',
                             Blk.var false [IV.int IntKind.i64 a], Blk.var false [IV.fsl none false (nat_lit 1) l],
                             Blk.var false [IV.int IntKind.i64 b], Blk.row (nat_lit 1) false (nat_lit 8) es,
                             Blk.lp (LpS.done Ex.ret)])
                   else
                     bif
                         fC
                           (rowX g b l) then
                       bif
                           !ok
                               (rowX g b l) then
                         some
                           (Ex.ret,
                             Sx (48 : Nat)
                               [IV.yf (nat_lit 9), IV.ptr (nat_lit 6) (nat_lit 0), IV.ptr (nat_lit 7) (nat_lit 0)]
                               [Blk.var false
                                   zPK.cells,
                                 Blk.var false [IV.int IntKind.i64 (0 : Int)],
                                 Blk.var false [IV.int IntKind.i64 b, IV.int IntKind.i64 (101 : Int)],
                                 Blk.var false [IV.fn (nat_lit 41) []],
                                 Blk.var false
                                   p.cells8',
                                 Blk.var false [IV.int IntKind.i64 a], Blk.var false [IV.fsl none false (nat_lit 1) l],
                                 Blk.var false [IV.int IntKind.i64 b], Blk.row (nat_lit 1) false (nat_lit 8) es,
                                 Blk.lp (LpS.done Ex.ret)])
                       else
                         bif
                             decide
                               ((es.length +
                                       [IV.agg
                                             [IV.int IntKind.i64
                                                 (x
                                                     (rowX g b l)).a,
                                               IV.bool
                                                 (x
                                                     (rowX g b l)).b,
                                               IV.bool
                                                 (x
                                                     (rowX g b l)).c,
                                               IV.int IntKind.i64
                                                 (x
                                                     (rowX g b l)).d,
                                               IV.int IntKind.u32
                                                 (x
                                                     (rowX g b l)).ts,
                                               IV.int IntKind.u32
                                                 (x
                                                     (rowX g b l)).fs,
                                               IV.fsl
                                                 (x
                                                     (rowX g b l)).n1
                                                 (x
                                                     (rowX g b l)).c1
                                                 (x
                                                     (rowX g b l)).z1
                                                 (x
                                                     (rowX g b l)).l1,
                                               IV.fsl
                                                 (x
                                                     (rowX g b l)).n2
                                                 (x
                                                     (rowX g b l)).c2
                                                 (x
                                                     (rowX g b l)).z2
                                                 (x
                                                     (rowX g b l)).l2]].length) *
                                     (80 : Nat) ≤
                                   roomB ∧
                                 es.length +
                                     [IV.agg
                                           [IV.int IntKind.i64
                                               (x
                                                   (rowX g b l)).a,
                                             IV.bool
                                               (x
                                                   (rowX g b l)).b,
                                             IV.bool
                                               (x
                                                   (rowX g b l)).c,
                                             IV.int IntKind.i64
                                               (x
                                                   (rowX g b l)).d,
                                             IV.int IntKind.u32
                                               (x
                                                   (rowX g b l)).ts,
                                             IV.int IntKind.u32
                                               (x
                                                   (rowX g b l)).fs,
                                             IV.fsl
                                               (x
                                                   (rowX g b l)).n1
                                               (x
                                                   (rowX g b l)).c1
                                               (x
                                                   (rowX g b l)).z1
                                               (x
                                                   (rowX g b l)).l1,
                                             IV.fsl
                                               (x
                                                   (rowX g b l)).n2
                                               (x
                                                   (rowX g b l)).c2
                                               (x
                                                   (rowX g b l)).z2
                                               (x
                                                   (rowX g b l)).l2]].length ≤
                                   maxLen) then
                           some
                             (Ex.normal,
                               Sx (48 : Nat)
                                 [IV.yf (nat_lit 9), IV.ptr (nat_lit 6) (nat_lit 0), IV.ptr (nat_lit 7) (nat_lit 0)]
                                 [Blk.var false
                                     zPK.cells,
                                   Blk.var false [IV.int IntKind.i64 (0 : Int)],
                                   Blk.var false [IV.int IntKind.i64 (0 : Int), IV.int IntKind.i64 (0 : Int)],
                                   Blk.var false [IV.fn (nat_lit 41) []],
                                   Blk.var false
                                     p.cells8',
                                   Blk.var false
                                     [IV.int IntKind.i64
                                         (IntKind.i64.wrap
                                           (b +
                                             (↑(rowX g b l).length :
                                               Int)))],
                                   Blk.var false [IV.fsl none false (nat_lit 1) l],
                                   Blk.var false
                                     [IV.int IntKind.i64
                                         (IntKind.i64.wrap
                                           (b +
                                             numN g b l))],
                                   Blk.row (nat_lit 1) false (nat_lit 8)
                                     (es ++
                                       [IV.agg
                                           [IV.int IntKind.i64
                                               (x
                                                   (rowX g b l)).a,
                                             IV.bool
                                               (x
                                                   (rowX g b l)).b,
                                             IV.bool
                                               (x
                                                   (rowX g b l)).c,
                                             IV.int IntKind.i64
                                               (x
                                                   (rowX g b l)).d,
                                             IV.int IntKind.u32
                                               (x
                                                   (rowX g b l)).ts,
                                             IV.int IntKind.u32
                                               (x
                                                   (rowX g b l)).fs,
                                             IV.fsl
                                               (x
                                                   (rowX g b l)).n1
                                               (x
                                                   (rowX g b l)).c1
                                               (x
                                                   (rowX g b l)).z1
                                               (x
                                                   (rowX g b l)).l1,
                                             IV.fsl
                                               (x
                                                   (rowX g b l)).n2
                                               (x
                                                   (rowX g b l)).c2
                                               (x
                                                   (rowX g b l)).z2
                                               (x
                                                   (rowX g b l)).l2]]),
                                   Blk.lp LpS.ready])
                         else none
                     else none
                 else none
               else none
           else
             some
               (Ex.ret,
                 Sx (48 : Nat) [IV.yf (nat_lit 9), IV.ptr (nat_lit 6) (nat_lit 0), IV.ptr (nat_lit 7) (nat_lit 0)]
                   [Blk.var false
                       zPK.cells,
                     Blk.var false [IV.int IntKind.i64 (0 : Int)],
                     Blk.var false [IV.int IntKind.i64 b, IV.int IntKind.i64 (101 : Int)],
                     Blk.var false [IV.fn (nat_lit 41) []],
                     Blk.var false
                       p.cells8',
                     Blk.var false [IV.int IntKind.i64 a], Blk.var false [IV.fsl none false (nat_lit 1) l],
                     Blk.var false [IV.int IntKind.i64 b], Blk.row (nat_lit 1) false (nat_lit 8) es,
                     Blk.lp (LpS.done Ex.ret)])
         else none
       else none
     else
       some
         (Ex.ret,
           Sx (48 : Nat) [IV.yf (nat_lit 9), IV.ptr (nat_lit 6) (nat_lit 0), IV.ptr (nat_lit 7) (nat_lit 0)]
             [Blk.var false
                 zPK.cells,
               Blk.var false [IV.int IntKind.i64 (0 : Int)],
               Blk.var false [IV.int IntKind.i64 b, IV.int IntKind.i64 (101 : Int)], Blk.var false [IV.fn (nat_lit 41) []],
               Blk.var false
                 p.cells8',
               Blk.var false [IV.int IntKind.i64 a], Blk.var false [IV.fsl none false (nat_lit 1) l],
               Blk.var false [IV.int IntKind.i64 b], Blk.row (nat_lit 1) false (nat_lit 8) es, Blk.lp (LpS.done Ex.ret)])
   else
     some
       (Ex.exit (nat_lit 0),
         Sx (48 : Nat) [IV.yf (nat_lit 9), IV.ptr (nat_lit 6) (nat_lit 0), IV.ptr (nat_lit 7) (nat_lit 0)]
           [Blk.var false
               zPK.cells,
             Blk.var false [IV.int IntKind.i64 (0 : Int)],
             Blk.var false [IV.int IntKind.i64 (0 : Int), IV.int IntKind.i64 (0 : Int)],
             Blk.var false [IV.fn (nat_lit 41) []],
             Blk.var false
               p.cells8',
             Blk.var false [IV.int IntKind.i64 a], Blk.var false [IV.fsl none false (nat_lit 1) l],
             Blk.var false [IV.int IntKind.i64 b], Blk.row (nat_lit 1) false (nat_lit 8) es, Blk.lp LpS.ready])) := by kernel_rfl
end Go.Proofs.Ytgbddcdpbgaojaa
