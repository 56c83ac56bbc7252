/- Packets: what the given program does with them. It bears no condition. -/
import Derived.Test.YtgbddcdpbgaojaaAwB
-- FOLD $ <= { le := $.le, ve := $.ve, mo := $.mo, st := $.st, po := $.po, pr := $.pr, de := $.de, di := $.di, ri := $.ri, rf := $.rf, og := $.og, rc := $.rc, xm := $.xm, n1 := $.n1, c1 := $.c1, z1 := $.z1, es := $.es, ha := $.ha, ky := $.ky, n2 := $.n2, c2 := $.c2, z2 := $.z2, su := $.su }
-- FOLD $.cells <= [IV.int IntKind.i64 $.le, IV.int IntKind.i64 $.ve, IV.int IntKind.i64 $.mo, IV.int IntKind.i64 $.st, IV.int IntKind.i64 $.po, IV.int IntKind.i64 $.pr, IV.int IntKind.u32 $.de, IV.int IntKind.u32 $.di, IV.int IntKind.u32 $.ri, IV.int IntKind.u64 $.rf, IV.int IntKind.u64 $.og, IV.int IntKind.u64 $.rc, IV.int IntKind.u64 $.xm, IV.fsl $.n1 $.c1 $.z1 $.es, IV.bool $.ha, IV.int IntKind.u32 $.ky, IV.fsl $.n2 $.c2 $.z2 $.su]
-- FOLD $.iv <= (IV.agg $.cells)
-- FOLD IV.agg ($.cells) <= IV.agg $.cells
-- FOLD (toX $) <= { a := intOf (nthD $.cells (0 : Nat)), b := boolOf (nthD $.cells (1 : Nat)), c := boolOf (nthD $.cells (2 : Nat)), d := intOf (nthD $.cells (3 : Nat)), ts := intOf (nthD $.cells (4 : Nat)), fs := intOf (nthD $.cells (5 : Nat)), n1 := nlOf (nthD $.cells (6 : Nat)), c1 := clOf (nthD $.cells (6 : Nat)), z1 := szOf (nthD $.cells (6 : Nat)), l1 := rowL (nthD $.cells (6 : Nat)), n2 := nlOf (nthD $.cells (7 : Nat)), c2 := clOf (nthD $.cells (7 : Nat)), z2 := szOf (nthD $.cells (7 : Nat)), l2 := rowL (nthD $.cells (7 : Nat)) }
-- FOLD $ <= { a := $.a, b := $.b, c := $.c, d := $.d, ts := $.ts, fs := $.fs, n1 := $.n1, c1 := $.c1, z1 := $.z1, l1 := $.l1, n2 := $.n2, c2 := $.c2, z2 := $.z2, l2 := $.l2 }
namespace Go.Proofs.Ytgbddcdpbgaojaa
open Go Go.Im
set_option linter.unusedVariables false
set_option linter.unusedSimpArgs false

/-- A field's value, and a packet's. -/
structure XV where
  (a : Int) (b c : Bool) (d ts fs : Int) (n1 : Option Bool) (c1 : Bool) (z1 : Nat) (l1 : List IV) (n2 : Option Bool) (c2 : Bool) (z2 : Nat) (l2 : List IV)
def XV.cells (x : XV) : List IV := [.int .i64 x.a, .bool x.b, .bool x.c, .int .i64 x.d, .int .u32 x.ts, .int .u32 x.fs, .fsl x.n1 x.c1 x.z1 x.l1, .fsl x.n2 x.c2 x.z2 x.l2]
def XV.iv (x : XV) : IV := .agg x.cells
structure PK where
  (le ve mo st po pr de di ri rf og rc xm : Int) (n1 : Option Bool) (c1 : Bool) (z1 : Nat) (es : List IV) (ha : Bool) (ky : Int) (n2 : Option Bool) (c2 : Bool) (z2 : Nat) (su : List IV)
def PK.cells (p : PK) : List IV := [.int .i64 p.le, .int .i64 p.ve, .int .i64 p.mo, .int .i64 p.st, .int .i64 p.po, .int .i64 p.pr, .int .u32 p.de, .int .u32 p.di, .int .u32 p.ri, .int .u64 p.rf, .int .u64 p.og, .int .u64 p.rc, .int .u64 p.xm,
  .fsl p.n1 p.c1 p.z1 p.es, .bool p.ha, .int .u32 p.ky, .fsl p.n2 p.c2 p.z2 p.su]
def PK.iv (p : PK) : IV := .agg p.cells

def toX (x : IV) : XV := ⟨intOf (nthD x.cells 0), boolOf (nthD x.cells 1), boolOf (nthD x.cells 2), intOf (nthD x.cells 3), intOf (nthD x.cells 4), intOf (nthD x.cells 5),
  nlOf (nthD x.cells 6), clOf (nthD x.cells 6), szOf (nthD x.cells 6), rowL (nthD x.cells 6), nlOf (nthD x.cells 7), clOf (nthD x.cells 7), szOf (nthD x.cells 7), rowL (nthD x.cells 7)⟩

end Go.Proofs.Ytgbddcdpbgaojaa
