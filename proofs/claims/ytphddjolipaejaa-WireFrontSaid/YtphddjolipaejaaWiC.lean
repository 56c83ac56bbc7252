/- Packets: what the given program does with them. It bears no condition. -/
import Derived.Test.YtphddjolipaejaaWiB
-- BYTES bytsC
-- FOLD $ <= { le := $.le, ve := $.ve, mo := $.mo, st := $.st, po := $.po, pr := $.pr, de := $.de, di := $.di, ri := $.ri, rf := $.rf, og := $.og, rc := $.rc, xm := $.xm, n1 := $.n1, c1 := $.c1, z1 := $.z1, es := $.es, ha := $.ha, ky := $.ky, n2 := $.n2, c2 := $.c2, z2 := $.z2, su := $.su }
-- FOLD $.cells <= [IV.int IntKind.i64 $.le, IV.int IntKind.i64 $.ve, IV.int IntKind.i64 $.mo, IV.int IntKind.i64 $.st, IV.int IntKind.i64 $.po, IV.int IntKind.i64 $.pr, IV.int IntKind.u32 $.de, IV.int IntKind.u32 $.di, IV.int IntKind.u32 $.ri, IV.int IntKind.u64 $.rf, IV.int IntKind.u64 $.og, IV.int IntKind.u64 $.rc, IV.int IntKind.u64 $.xm, IV.fsl $.n1 $.c1 $.z1 $.es, IV.bool $.ha, IV.int IntKind.u32 $.ky, IV.fsl $.n2 $.c2 $.z2 $.su]
-- FOLD $.iv <= (IV.agg $.cells)
-- FOLD IV.agg ($.cells) <= IV.agg $.cells
-- FOLD (toX $) <= { a := intOf (nthD $.cells (0 : Nat)), b := boolOf (nthD $.cells (1 : Nat)), c := boolOf (nthD $.cells (2 : Nat)), d := intOf (nthD $.cells (3 : Nat)), ts := intOf (nthD $.cells (4 : Nat)), fs := intOf (nthD $.cells (5 : Nat)), n1 := nlOf (nthD $.cells (6 : Nat)), c1 := clOf (nthD $.cells (6 : Nat)), z1 := szOf (nthD $.cells (6 : Nat)), l1 := rowL (nthD $.cells (6 : Nat)), n2 := nlOf (nthD $.cells (7 : Nat)), c2 := clOf (nthD $.cells (7 : Nat)), z2 := szOf (nthD $.cells (7 : Nat)), l2 := rowL (nthD $.cells (7 : Nat)) }
-- FOLD $ <= { a := $.a, b := $.b, c := $.c, d := $.d, ts := $.ts, fs := $.fs, n1 := $.n1, c1 := $.c1, z1 := $.z1, l1 := $.l1, n2 := $.n2, c2 := $.c2, z2 := $.z2, l2 := $.l2 }
namespace Go.Proofs.Ytphddjolipaejaa
open Go Go.Im
set_option linter.unusedVariables false
set_option linter.unusedSimpArgs false

/-- A field's value, and a packet's. -/
structure XV where
  (a : Int) (b c : Bool) (d ts fs : Int) (n1 : Option Bool) (c1 : Bool) (z1 : Nat) (l1 : List IV) (n2 : Option Bool) (c2 : Bool) (z2 : Nat) (l2 : List IV)
def XV.cells (x : XV) : List IV := [.int .i64 x.a, .bool x.b, .bool x.c, .int .i64 x.d, .int .u32 x.ts, .int .u32 x.fs, .fsl x.n1 x.c1 x.z1 x.l1, .fsl x.n2 x.c2 x.z2 x.l2]
def XV.iv (x : XV) : IV := .agg x.cells
structure PK where
  (le ve mo st po pr de di ri rf og rc xm : Int) (n1 : Option Bool) (c1 : Bool) (z1 : Nat) (es : List IV) (ha : Bool) (ky : Int) (n2 : Option Bool) (c2 : Bool) (z2 : Nat) (su : List IV)
def PK.cells (p : PK) : List IV := [.int .i64 p.le, .int .i64 p.ve, .int .i64 p.mo, .int .i64 p.st, .int .i64 p.po, .int .i64 p.pr, .int .u32 p.de, .int .u32 p.di, .int .u32 p.ri, .int .u64 p.rf, .int .u64 p.og, .int .u64 p.rc, .int .u64 p.xm,
  .fsl p.n1 p.c1 p.z1 p.es, .bool p.ha, .int .u32 p.ky, .fsl p.n2 p.c2 p.z2 p.su]
def PK.iv (p : PK) : IV := .agg p.cells

def toX (x : IV) : XV := ⟨intOf (nthD x.cells 0), boolOf (nthD x.cells 1), boolOf (nthD x.cells 2), intOf (nthD x.cells 3), intOf (nthD x.cells 4), intOf (nthD x.cells 5),
  nlOf (nthD x.cells 6), clOf (nthD x.cells 6), szOf (nthD x.cells 6), rowL (nthD x.cells 6), nlOf (nthD x.cells 7), clOf (nthD x.cells 7), szOf (nthD x.cells 7), rowL (nthD x.cells 7)⟩

/-! ### Shapes of contracts -/
def xP (k : IntKind) (c : XV → Bool) (g : XV → Int) : SpecF := fun xs T => match xs, T with
  | [.agg [.int .i64 a, .bool b, .bool c', .int .i64 d, .int .u32 ts, .int .u32 fs, .fsl n1 c1 z1 l1, .fsl n2 c2 z2 l2]], [] => [(c ⟨a, b, c', d, ts, fs, n1, c1, z1, l1, n2, c2, z2, l2⟩, .int k (g ⟨a, b, c', d, ts, fs, n1, c1, z1, l1, n2, c2, z2, l2⟩), [])]
  | _, _ => []
def xRowP (c : XV → Bool) (g : XV → List IV) : SpecF := fun xs T => match xs, T with
  | [.agg [.int .i64 a, .bool b, .bool c', .int .i64 d, .int .u32 ts, .int .u32 fs, .fsl n1 c1 z1 l1, .fsl n2 c2 z2 l2]], [] => [(c ⟨a, b, c', d, ts, fs, n1, c1, z1, l1, n2, c2, z2, l2⟩, .osl 0 0, [.row 0 false 1 (g ⟨a, b, c', d, ts, fs, n1, c1, z1, l1, n2, c2, z2, l2⟩)])]
  | _, _ => []
def xxP (c : XV → XV → Bool) (g : XV → XV → Bool) : SpecF := fun xs T => match xs, T with
  | [.agg [.int .i64 a, .bool b, .bool c', .int .i64 d, .int .u32 ts, .int .u32 fs, .fsl n1 c1 z1 l1, .fsl n2 c2 z2 l2], .agg [.int .i64 a', .bool b', .bool c'', .int .i64 d', .int .u32 ts', .int .u32 fs', .fsl n1' c1' z1' l1', .fsl n2' c2' z2' l2']], [] =>
    [(c ⟨a, b, c', d, ts, fs, n1, c1, z1, l1, n2, c2, z2, l2⟩ ⟨a', b', c'', d', ts', fs', n1', c1', z1', l1', n2', c2', z2', l2'⟩, .bool (g ⟨a, b, c', d, ts, fs, n1, c1, z1, l1, n2, c2, z2, l2⟩ ⟨a', b', c'', d', ts', fs', n1', c1', z1', l1', n2', c2', z2', l2'⟩), [])]
  | _, _ => []
def btwF : SpecF := fun xs T => match xs, T with
  | [.int .i64 a, .int .i64 b, .int .i64 c], [] => [(true, .bool (decide (b ≤ a) && decide (a ≤ c)), [])]
  | _, _ => []
def bitF : SpecF := fun xs T => match xs, T with
  | [.bool b, .int .u8 n], [] => [(true, .int .u8 (bif b then n else 0), [])]
  | _, _ => []
def macP (c1 c2 : Bool → Int → Nat → List IV → Bool) (g : Int → List IV → List IV) : SpecF := fun xs T => match xs, T with
  | [.agg [.bool h, .int .u32 k, .fsl nl cl z l]], [] => [(c1 h k z l, .fsl (some true) true 0 [], []), (c2 h k z l, .osl 0 0, [.row 0 false 1 (g k l)])]
  | _, _ => []
def pkP (c : PK → Bool) (g : PK → IV) : SpecF := fun xs T => match xs, T with
  | [.agg [.int .i64 le, .int .i64 ve, .int .i64 mo, .int .i64 st, .int .i64 po, .int .i64 pr, .int .u32 de, .int .u32 di, .int .u32 ri, .int .u64 rf, .int .u64 og, .int .u64 rc, .int .u64 xm, .fsl n1 c1 z1 es, .bool ha, .int .u32 ky, .fsl n2 c2 z2 su]], [] =>
    [(c ⟨le, ve, mo, st, po, pr, de, di, ri, rf, og, rc, xm, n1, c1, z1, es, ha, ky, n2, c2, z2, su⟩, g ⟨le, ve, mo, st, po, pr, de, di, ri, rf, og, rc, xm, n1, c1, z1, es, ha, ky, n2, c2, z2, su⟩, [])]
  | _, _ => []

/-- Loops over a packet's fields. -/
def hvL (d1 : PK → Int → Int → Bool) (g1 : PK → Int → Int) (d2 : PK → Int → Int → Bool) (g2 g3 : PK → Int → Int) : LiveF := fun vs bx => match vs, bx with
  | [.ptr 0 0, .bool b, .int .i64 n, .int .i64 i], [.var false [.int .i64 le, .int .i64 ve, .int .i64 mo, .int .i64 st, .int .i64 po, .int .i64 pr, .int .u32 de, .int .u32 di, .int .u32 ri, .int .u64 rf, .int .u64 og, .int .u64 rc, .int .u64 xm, .fsl n1 c1 z1 es, .bool ha, .int .u32 ky, .fsl n2 c2 z2 su]] =>
    [(d1 ⟨le, ve, mo, st, po, pr, de, di, ri, rf, og, rc, xm, n1, c1, z1, es, ha, ky, n2, c2, z2, su⟩ n i, .exit 0, [.ptr 0 0, .bool b, .int .i64 (g1 ⟨le, ve, mo, st, po, pr, de, di, ri, rf, og, rc, xm, n1, c1, z1, es, ha, ky, n2, c2, z2, su⟩ n), .int .i64 es.length], bx), (d2 ⟨le, ve, mo, st, po, pr, de, di, ri, rf, og, rc, xm, n1, c1, z1, es, ha, ky, n2, c2, z2, su⟩ n i, .ret, [.ptr 0 0, .bool true, .int .i64 (g2 ⟨le, ve, mo, st, po, pr, de, di, ri, rf, og, rc, xm, n1, c1, z1, es, ha, ky, n2, c2, z2, su⟩ n), .int .i64 (g3 ⟨le, ve, mo, st, po, pr, de, di, ri, rf, og, rc, xm, n1, c1, z1, es, ha, ky, n2, c2, z2, su⟩ n)], bx)]
  | _, _ => []
def rtL (d : Bool → Int → Nat → List IV → Int → Int → Bool) (gb : Bool → List IV → Bool) (gn : Int → List IV → Int) : LiveF := fun vs bx => match vs, bx with
  | [.ptr 0 0, .bool b, .int .i64 n, .fsl nl cl z l, .int .i64 len, .int .i64 i], [.var false [.int .i64 le, .int .i64 ve, .int .i64 mo, .int .i64 st, .int .i64 po, .int .i64 pr, .int .u32 de, .int .u32 di, .int .u32 ri, .int .u64 rf, .int .u64 og, .int .u64 rc, .int .u64 xm, .fsl n1 c1 z1 es, .bool ha, .int .u32 ky, .fsl n2 c2 z2 su]] =>
    [(d b n z l len i, .exit 0, [.ptr 0 0, .bool (gb b l), .int .i64 (gn n l), .fsl nl cl z l, .int .i64 len, .int .i64 len], bx)]
  | _, _ => []
def rrL (d1 : PK → Int → Int → Bool) (g1 : PK → Int → Int) (d2 : PK → Int → Int → Bool) (g2 g3 : PK → Int → Int) : LiveF := fun vs bx => match vs, bx with
  | [.ptr 0 0, .int .i64 e, .int .i64 n, .int .i64 i], [.var false [.int .i64 le, .int .i64 ve, .int .i64 mo, .int .i64 st, .int .i64 po, .int .i64 pr, .int .u32 de, .int .u32 di, .int .u32 ri, .int .u64 rf, .int .u64 og, .int .u64 rc, .int .u64 xm, .fsl n1 c1 z1 es, .bool ha, .int .u32 ky, .fsl n2 c2 z2 su]] =>
    [(d1 ⟨le, ve, mo, st, po, pr, de, di, ri, rf, og, rc, xm, n1, c1, z1, es, ha, ky, n2, c2, z2, su⟩ n i, .exit 0, [.ptr 0 0, .int .i64 e, .int .i64 (g1 ⟨le, ve, mo, st, po, pr, de, di, ri, rf, og, rc, xm, n1, c1, z1, es, ha, ky, n2, c2, z2, su⟩ n), .int .i64 es.length], bx), (d2 ⟨le, ve, mo, st, po, pr, de, di, ri, rf, og, rc, xm, n1, c1, z1, es, ha, ky, n2, c2, z2, su⟩ n i, .ret, [.ptr 0 0, .int .i64 3, .int .i64 (g2 ⟨le, ve, mo, st, po, pr, de, di, ri, rf, og, rc, xm, n1, c1, z1, es, ha, ky, n2, c2, z2, su⟩ n), .int .i64 (g3 ⟨le, ve, mo, st, po, pr, de, di, ri, rf, og, rc, xm, n1, c1, z1, es, ha, ky, n2, c2, z2, su⟩ n)], bx)]
  | _, _ => []
def smL (d1 d2 : PK → PK → Int → Bool) (g : PK → PK → Int) : LiveF := fun vs bx => match vs, bx with
  | [.ptr 0 0, .ptr 1 0, .bool b, .int .i64 i], [.var false [.int .i64 le, .int .i64 ve, .int .i64 mo, .int .i64 st, .int .i64 po, .int .i64 pr, .int .u32 de, .int .u32 di, .int .u32 ri, .int .u64 rf, .int .u64 og, .int .u64 rc, .int .u64 xm, .fsl n1 c1 z1 es, .bool ha, .int .u32 ky, .fsl n2 c2 z2 su], .var false [.int .i64 le', .int .i64 ve', .int .i64 mo', .int .i64 st', .int .i64 po', .int .i64 pr', .int .u32 de', .int .u32 di', .int .u32 ri', .int .u64 rf', .int .u64 og', .int .u64 rc', .int .u64 xm', .fsl n1' c1' z1' es', .bool ha', .int .u32 ky', .fsl n2' c2' z2' su']] =>
    [(d1 ⟨le, ve, mo, st, po, pr, de, di, ri, rf, og, rc, xm, n1, c1, z1, es, ha, ky, n2, c2, z2, su⟩ ⟨le', ve', mo', st', po', pr', de', di', ri', rf', og', rc', xm', n1', c1', z1', es', ha', ky', n2', c2', z2', su'⟩ i, .exit 0, [.ptr 0 0, .ptr 1 0, .bool b, .int .i64 es.length], bx), (d2 ⟨le, ve, mo, st, po, pr, de, di, ri, rf, og, rc, xm, n1, c1, z1, es, ha, ky, n2, c2, z2, su⟩ ⟨le', ve', mo', st', po', pr', de', di', ri', rf', og', rc', xm', n1', c1', z1', es', ha', ky', n2', c2', z2', su'⟩ i, .ret, [.ptr 0 0, .ptr 1 0, .bool false, .int .i64 (g ⟨le, ve, mo, st, po, pr, de, di, ri, rf, og, rc, xm, n1, c1, z1, es, ha, ky, n2, c2, z2, su⟩ ⟨le', ve', mo', st', po', pr', de', di', ri', rf', og', rc', xm', n1', c1', z1', es', ha', ky', n2', c2', z2', su'⟩)], bx)]
  | _, _ => []

theorem btw_all (a b c : Int) : C (tab []) 25 [.int .i64 a, .int .i64 b, .int .i64 c] =
  (some (IV.bool (bif decide (a ≥ b) then decide (a ≤ c) else false), [])) := by kernel_rfl
theorem field_all (x : XV) (q : Int → Bool) (p : Int → Int) (c : Int → Int → Bool) (g : Int → Int → List IV) (c2 : Nat → List IV → Bool) (g2 : List IV → List IV) : C (tab [(30, intP q p), (22, byP c g), (31, rdataP c2 g2)]) 23 [x.iv] =
  (bif x.b then
     bif x.c then
       bif q (↑x.l1.length : Int) then
         bif q (↑x.l2.length : Int) then
           bif
               c
                 (IntKind.u64.wrap
                   (IntKind.i64.wrap
                     (IntKind.i64.wrap
                         (IntKind.i64.wrap
                             (IntKind.i64.wrap ((24 : Int) + (↑x.l1.length : Int)) + p (↑x.l1.length : Int)) +
                           (↑x.l2.length : Int)) +
                       p (↑x.l2.length : Int))))
                 (2 : Int) then
             bif
                 decide
                   ((([] ++
                               [IV.int IntKind.u8
                                   (IntKind.u8.wrap
                                     (IntKind.i64.wrap (IntKind.i64.wrap (x.a + (128 : Int)) + (64 : Int)))),
                                 IV.int IntKind.u8 (0 : Int)]).length +
                           (g
                               (IntKind.u64.wrap
                                 (IntKind.i64.wrap
                                   (IntKind.i64.wrap
                                       (IntKind.i64.wrap
                                           (IntKind.i64.wrap ((24 : Int) + (↑x.l1.length : Int)) +
                                             p (↑x.l1.length : Int)) +
                                         (↑x.l2.length : Int)) +
                                     p (↑x.l2.length : Int))))
                               (2 : Int)).length) *
                         (1 : Nat) ≤
                       roomB ∧
                     ([] ++
                             [IV.int IntKind.u8
                                 (IntKind.u8.wrap (IntKind.i64.wrap (IntKind.i64.wrap (x.a + (128 : Int)) + (64 : Int)))),
                               IV.int IntKind.u8 (0 : Int)]).length +
                         (g
                             (IntKind.u64.wrap
                               (IntKind.i64.wrap
                                 (IntKind.i64.wrap
                                     (IntKind.i64.wrap
                                         (IntKind.i64.wrap ((24 : Int) + (↑x.l1.length : Int)) + p (↑x.l1.length : Int)) +
                                       (↑x.l2.length : Int)) +
                                   p (↑x.l2.length : Int))))
                             (2 : Int)).length ≤
                       maxLen) then
               bif c (IntKind.u64.wrap x.d) (2 : Int) then
                 bif
                     decide
                       ((([] ++
                                     [IV.int IntKind.u8
                                         (IntKind.u8.wrap
                                           (IntKind.i64.wrap (IntKind.i64.wrap (x.a + (128 : Int)) + (64 : Int)))),
                                       IV.int IntKind.u8 (0 : Int)] ++
                                   g
                                     (IntKind.u64.wrap
                                       (IntKind.i64.wrap
                                         (IntKind.i64.wrap
                                             (IntKind.i64.wrap
                                                 (IntKind.i64.wrap ((24 : Int) + (↑x.l1.length : Int)) +
                                                   p (↑x.l1.length : Int)) +
                                               (↑x.l2.length : Int)) +
                                           p (↑x.l2.length : Int))))
                                     (2 : Int)).length +
                               (g (IntKind.u64.wrap x.d) (2 : Int)).length) *
                             (1 : Nat) ≤
                           roomB ∧
                         ([] ++
                                   [IV.int IntKind.u8
                                       (IntKind.u8.wrap
                                         (IntKind.i64.wrap (IntKind.i64.wrap (x.a + (128 : Int)) + (64 : Int)))),
                                     IV.int IntKind.u8 (0 : Int)] ++
                                 g
                                   (IntKind.u64.wrap
                                     (IntKind.i64.wrap
                                       (IntKind.i64.wrap
                                           (IntKind.i64.wrap
                                               (IntKind.i64.wrap ((24 : Int) + (↑x.l1.length : Int)) +
                                                 p (↑x.l1.length : Int)) +
                                             (↑x.l2.length : Int)) +
                                         p (↑x.l2.length : Int))))
                                   (2 : Int)).length +
                             (g (IntKind.u64.wrap x.d) (2 : Int)).length ≤
                           maxLen) then
                   bif
                       decide
                         ((([] ++
                                         [IV.int IntKind.u8
                                             (IntKind.u8.wrap
                                               (IntKind.i64.wrap (IntKind.i64.wrap (x.a + (128 : Int)) + (64 : Int)))),
                                           IV.int IntKind.u8 (0 : Int)] ++
                                       g
                                         (IntKind.u64.wrap
                                           (IntKind.i64.wrap
                                             (IntKind.i64.wrap
                                                 (IntKind.i64.wrap
                                                     (IntKind.i64.wrap ((24 : Int) + (↑x.l1.length : Int)) +
                                                       p (↑x.l1.length : Int)) +
                                                   (↑x.l2.length : Int)) +
                                               p (↑x.l2.length : Int))))
                                         (2 : Int) ++
                                     g (IntKind.u64.wrap x.d) (2 : Int)).length +
                                 (2 : Nat)) *
                               (1 : Nat) ≤
                             roomB ∧
                           ([] ++
                                       [IV.int IntKind.u8
                                           (IntKind.u8.wrap
                                             (IntKind.i64.wrap (IntKind.i64.wrap (x.a + (128 : Int)) + (64 : Int)))),
                                         IV.int IntKind.u8 (0 : Int)] ++
                                     g
                                       (IntKind.u64.wrap
                                         (IntKind.i64.wrap
                                           (IntKind.i64.wrap
                                               (IntKind.i64.wrap
                                                   (IntKind.i64.wrap ((24 : Int) + (↑x.l1.length : Int)) +
                                                     p (↑x.l1.length : Int)) +
                                                 (↑x.l2.length : Int)) +
                                             p (↑x.l2.length : Int))))
                                       (2 : Int) ++
                                   g (IntKind.u64.wrap x.d) (2 : Int)).length +
                               (2 : Nat) ≤
                             maxLen) then
                     bif c (IntKind.u64.wrap x.ts) (4 : Int) then
                       bif
                           decide
                             ((([] ++
                                               [IV.int IntKind.u8
                                                   (IntKind.u8.wrap
                                                     (IntKind.i64.wrap
                                                       (IntKind.i64.wrap (x.a + (128 : Int)) + (64 : Int)))),
                                                 IV.int IntKind.u8 (0 : Int)] ++
                                             g
                                               (IntKind.u64.wrap
                                                 (IntKind.i64.wrap
                                                   (IntKind.i64.wrap
                                                       (IntKind.i64.wrap
                                                           (IntKind.i64.wrap ((24 : Int) + (↑x.l1.length : Int)) +
                                                             p (↑x.l1.length : Int)) +
                                                         (↑x.l2.length : Int)) +
                                                     p (↑x.l2.length : Int))))
                                               (2 : Int) ++
                                           g (IntKind.u64.wrap x.d) (2 : Int) ++
                                         [IV.int IntKind.u8 (0 : Int), IV.int IntKind.u8 (0 : Int)]).length +
                                     (g (IntKind.u64.wrap x.ts) (4 : Int)).length) *
                                   (1 : Nat) ≤
                                 roomB ∧
                               ([] ++
                                             [IV.int IntKind.u8
                                                 (IntKind.u8.wrap
                                                   (IntKind.i64.wrap (IntKind.i64.wrap (x.a + (128 : Int)) + (64 : Int)))),
                                               IV.int IntKind.u8 (0 : Int)] ++
                                           g
                                             (IntKind.u64.wrap
                                               (IntKind.i64.wrap
                                                 (IntKind.i64.wrap
                                                     (IntKind.i64.wrap
                                                         (IntKind.i64.wrap ((24 : Int) + (↑x.l1.length : Int)) +
                                                           p (↑x.l1.length : Int)) +
                                                       (↑x.l2.length : Int)) +
                                                   p (↑x.l2.length : Int))))
                                             (2 : Int) ++
                                         g (IntKind.u64.wrap x.d) (2 : Int) ++
                                       [IV.int IntKind.u8 (0 : Int), IV.int IntKind.u8 (0 : Int)]).length +
                                   (g (IntKind.u64.wrap x.ts) (4 : Int)).length ≤
                                 maxLen) then
                         bif c (IntKind.u64.wrap x.fs) (4 : Int) then
                           bif
                               decide
                                 ((([] ++
                                                     [IV.int IntKind.u8
                                                         (IntKind.u8.wrap
                                                           (IntKind.i64.wrap
                                                             (IntKind.i64.wrap (x.a + (128 : Int)) + (64 : Int)))),
                                                       IV.int IntKind.u8 (0 : Int)] ++
                                                   g
                                                     (IntKind.u64.wrap
                                                       (IntKind.i64.wrap
                                                         (IntKind.i64.wrap
                                                             (IntKind.i64.wrap
                                                                 (IntKind.i64.wrap ((24 : Int) + (↑x.l1.length : Int)) +
                                                                   p (↑x.l1.length : Int)) +
                                                               (↑x.l2.length : Int)) +
                                                           p (↑x.l2.length : Int))))
                                                     (2 : Int) ++
                                                 g (IntKind.u64.wrap x.d) (2 : Int) ++
                                               [IV.int IntKind.u8 (0 : Int), IV.int IntKind.u8 (0 : Int)] ++
                                             g (IntKind.u64.wrap x.ts) (4 : Int)).length +
                                         (g (IntKind.u64.wrap x.fs) (4 : Int)).length) *
                                       (1 : Nat) ≤
                                     roomB ∧
                                   ([] ++
                                                   [IV.int IntKind.u8
                                                       (IntKind.u8.wrap
                                                         (IntKind.i64.wrap
                                                           (IntKind.i64.wrap (x.a + (128 : Int)) + (64 : Int)))),
                                                     IV.int IntKind.u8 (0 : Int)] ++
                                                 g
                                                   (IntKind.u64.wrap
                                                     (IntKind.i64.wrap
                                                       (IntKind.i64.wrap
                                                           (IntKind.i64.wrap
                                                               (IntKind.i64.wrap ((24 : Int) + (↑x.l1.length : Int)) +
                                                                 p (↑x.l1.length : Int)) +
                                                             (↑x.l2.length : Int)) +
                                                         p (↑x.l2.length : Int))))
                                                   (2 : Int) ++
                                               g (IntKind.u64.wrap x.d) (2 : Int) ++
                                             [IV.int IntKind.u8 (0 : Int), IV.int IntKind.u8 (0 : Int)] ++
                                           g (IntKind.u64.wrap x.ts) (4 : Int)).length +
                                       (g (IntKind.u64.wrap x.fs) (4 : Int)).length ≤
                                     maxLen) then
                             bif c2 x.z1 x.l1 then
                               bif
                                   decide
                                     ((([] ++
                                                           [IV.int IntKind.u8
                                                               (IntKind.u8.wrap
                                                                 (IntKind.i64.wrap
                                                                   (IntKind.i64.wrap (x.a + (128 : Int)) + (64 : Int)))),
                                                             IV.int IntKind.u8 (0 : Int)] ++
                                                         g
                                                           (IntKind.u64.wrap
                                                             (IntKind.i64.wrap
                                                               (IntKind.i64.wrap
                                                                   (IntKind.i64.wrap
                                                                       (IntKind.i64.wrap
                                                                           ((24 : Int) + (↑x.l1.length : Int)) +
                                                                         p (↑x.l1.length : Int)) +
                                                                     (↑x.l2.length : Int)) +
                                                                 p (↑x.l2.length : Int))))
                                                           (2 : Int) ++
                                                       g (IntKind.u64.wrap x.d) (2 : Int) ++
                                                     [IV.int IntKind.u8 (0 : Int), IV.int IntKind.u8 (0 : Int)] ++
                                                   g (IntKind.u64.wrap x.ts) (4 : Int) ++
                                                 g (IntKind.u64.wrap x.fs) (4 : Int)).length +
                                             (g2 x.l1).length) *
                                           (1 : Nat) ≤
                                         roomB ∧
                                       ([] ++
                                                         [IV.int IntKind.u8
                                                             (IntKind.u8.wrap
                                                               (IntKind.i64.wrap
                                                                 (IntKind.i64.wrap (x.a + (128 : Int)) + (64 : Int)))),
                                                           IV.int IntKind.u8 (0 : Int)] ++
                                                       g
                                                         (IntKind.u64.wrap
                                                           (IntKind.i64.wrap
                                                             (IntKind.i64.wrap
                                                                 (IntKind.i64.wrap
                                                                     (IntKind.i64.wrap
                                                                         ((24 : Int) + (↑x.l1.length : Int)) +
                                                                       p (↑x.l1.length : Int)) +
                                                                   (↑x.l2.length : Int)) +
                                                               p (↑x.l2.length : Int))))
                                                         (2 : Int) ++
                                                     g (IntKind.u64.wrap x.d) (2 : Int) ++
                                                   [IV.int IntKind.u8 (0 : Int), IV.int IntKind.u8 (0 : Int)] ++
                                                 g (IntKind.u64.wrap x.ts) (4 : Int) ++
                                               g (IntKind.u64.wrap x.fs) (4 : Int)).length +
                                           (g2 x.l1).length ≤
                                         maxLen) then
                                 bif c2 x.z2 x.l2 then
                                   bif
                                       decide
                                         ((([] ++
                                                                 [IV.int IntKind.u8
                                                                     (IntKind.u8.wrap
                                                                       (IntKind.i64.wrap
                                                                         (IntKind.i64.wrap (x.a + (128 : Int)) +
                                                                           (64 : Int)))),
                                                                   IV.int IntKind.u8 (0 : Int)] ++
                                                               g
                                                                 (IntKind.u64.wrap
                                                                   (IntKind.i64.wrap
                                                                     (IntKind.i64.wrap
                                                                         (IntKind.i64.wrap
                                                                             (IntKind.i64.wrap
                                                                                 ((24 : Int) + (↑x.l1.length : Int)) +
                                                                               p (↑x.l1.length : Int)) +
                                                                           (↑x.l2.length : Int)) +
                                                                       p (↑x.l2.length : Int))))
                                                                 (2 : Int) ++
                                                             g (IntKind.u64.wrap x.d) (2 : Int) ++
                                                           [IV.int IntKind.u8 (0 : Int), IV.int IntKind.u8 (0 : Int)] ++
                                                         g (IntKind.u64.wrap x.ts) (4 : Int) ++
                                                       g (IntKind.u64.wrap x.fs) (4 : Int) ++
                                                     g2 x.l1).length +
                                                 (g2 x.l2).length) *
                                               (1 : Nat) ≤
                                             roomB ∧
                                           ([] ++
                                                               [IV.int IntKind.u8
                                                                   (IntKind.u8.wrap
                                                                     (IntKind.i64.wrap
                                                                       (IntKind.i64.wrap (x.a + (128 : Int)) +
                                                                         (64 : Int)))),
                                                                 IV.int IntKind.u8 (0 : Int)] ++
                                                             g
                                                               (IntKind.u64.wrap
                                                                 (IntKind.i64.wrap
                                                                   (IntKind.i64.wrap
                                                                       (IntKind.i64.wrap
                                                                           (IntKind.i64.wrap
                                                                               ((24 : Int) + (↑x.l1.length : Int)) +
                                                                             p (↑x.l1.length : Int)) +
                                                                         (↑x.l2.length : Int)) +
                                                                     p (↑x.l2.length : Int))))
                                                               (2 : Int) ++
                                                           g (IntKind.u64.wrap x.d) (2 : Int) ++
                                                         [IV.int IntKind.u8 (0 : Int), IV.int IntKind.u8 (0 : Int)] ++
                                                       g (IntKind.u64.wrap x.ts) (4 : Int) ++
                                                     g (IntKind.u64.wrap x.fs) (4 : Int) ++
                                                   g2 x.l1).length +
                                               (g2 x.l2).length ≤
                                             maxLen) then
                                     some
                                       (IV.osl (nat_lit 0) (nat_lit 0),
                                         [Blk.row (nat_lit 0) false (nat_lit 1)
                                             (IV.int IntKind.u8
                                                 (IntKind.u8.wrap
                                                   (IntKind.i64.wrap
                                                     (IntKind.i64.wrap (x.a + (128 : Int)) + (64 : Int)))) ::
                                               IV.int IntKind.u8 (0 : Int) ::
                                                 (g
                                                               (IntKind.u64.wrap
                                                                 (IntKind.i64.wrap
                                                                   (IntKind.i64.wrap
                                                                       (IntKind.i64.wrap
                                                                           (IntKind.i64.wrap
                                                                               ((24 : Int) + (↑x.l1.length : Int)) +
                                                                             p (↑x.l1.length : Int)) +
                                                                         (↑x.l2.length : Int)) +
                                                                     p (↑x.l2.length : Int))))
                                                               (2 : Int) ++
                                                             g (IntKind.u64.wrap x.d) (2 : Int) ++
                                                           [IV.int IntKind.u8 (0 : Int), IV.int IntKind.u8 (0 : Int)] ++
                                                         g (IntKind.u64.wrap x.ts) (4 : Int) ++
                                                       g (IntKind.u64.wrap x.fs) (4 : Int) ++
                                                     g2 x.l1 ++
                                                   g2 x.l2))])
                                   else none
                                 else none
                               else none
                             else none
                           else none
                         else none
                       else none
                     else none
                   else none
                 else none
               else none
             else none
           else none
         else none
       else none
     else
       bif q (↑x.l1.length : Int) then
         bif q (↑x.l2.length : Int) then
           bif
               c
                 (IntKind.u64.wrap
                   (IntKind.i64.wrap
                     (IntKind.i64.wrap
                         (IntKind.i64.wrap
                             (IntKind.i64.wrap ((24 : Int) + (↑x.l1.length : Int)) + p (↑x.l1.length : Int)) +
                           (↑x.l2.length : Int)) +
                       p (↑x.l2.length : Int))))
                 (2 : Int) then
             bif
                 decide
                   ((([] ++
                               [IV.int IntKind.u8 (IntKind.u8.wrap (IntKind.i64.wrap (x.a + (128 : Int)))),
                                 IV.int IntKind.u8 (0 : Int)]).length +
                           (g
                               (IntKind.u64.wrap
                                 (IntKind.i64.wrap
                                   (IntKind.i64.wrap
                                       (IntKind.i64.wrap
                                           (IntKind.i64.wrap ((24 : Int) + (↑x.l1.length : Int)) +
                                             p (↑x.l1.length : Int)) +
                                         (↑x.l2.length : Int)) +
                                     p (↑x.l2.length : Int))))
                               (2 : Int)).length) *
                         (1 : Nat) ≤
                       roomB ∧
                     ([] ++
                             [IV.int IntKind.u8 (IntKind.u8.wrap (IntKind.i64.wrap (x.a + (128 : Int)))),
                               IV.int IntKind.u8 (0 : Int)]).length +
                         (g
                             (IntKind.u64.wrap
                               (IntKind.i64.wrap
                                 (IntKind.i64.wrap
                                     (IntKind.i64.wrap
                                         (IntKind.i64.wrap ((24 : Int) + (↑x.l1.length : Int)) + p (↑x.l1.length : Int)) +
                                       (↑x.l2.length : Int)) +
                                   p (↑x.l2.length : Int))))
                             (2 : Int)).length ≤
                       maxLen) then
               bif c (IntKind.u64.wrap x.d) (2 : Int) then
                 bif
                     decide
                       ((([] ++
                                     [IV.int IntKind.u8 (IntKind.u8.wrap (IntKind.i64.wrap (x.a + (128 : Int)))),
                                       IV.int IntKind.u8 (0 : Int)] ++
                                   g
                                     (IntKind.u64.wrap
                                       (IntKind.i64.wrap
                                         (IntKind.i64.wrap
                                             (IntKind.i64.wrap
                                                 (IntKind.i64.wrap ((24 : Int) + (↑x.l1.length : Int)) +
                                                   p (↑x.l1.length : Int)) +
                                               (↑x.l2.length : Int)) +
                                           p (↑x.l2.length : Int))))
                                     (2 : Int)).length +
                               (g (IntKind.u64.wrap x.d) (2 : Int)).length) *
                             (1 : Nat) ≤
                           roomB ∧
                         ([] ++
                                   [IV.int IntKind.u8 (IntKind.u8.wrap (IntKind.i64.wrap (x.a + (128 : Int)))),
                                     IV.int IntKind.u8 (0 : Int)] ++
                                 g
                                   (IntKind.u64.wrap
                                     (IntKind.i64.wrap
                                       (IntKind.i64.wrap
                                           (IntKind.i64.wrap
                                               (IntKind.i64.wrap ((24 : Int) + (↑x.l1.length : Int)) +
                                                 p (↑x.l1.length : Int)) +
                                             (↑x.l2.length : Int)) +
                                         p (↑x.l2.length : Int))))
                                   (2 : Int)).length +
                             (g (IntKind.u64.wrap x.d) (2 : Int)).length ≤
                           maxLen) then
                   bif
                       decide
                         ((([] ++
                                         [IV.int IntKind.u8 (IntKind.u8.wrap (IntKind.i64.wrap (x.a + (128 : Int)))),
                                           IV.int IntKind.u8 (0 : Int)] ++
                                       g
                                         (IntKind.u64.wrap
                                           (IntKind.i64.wrap
                                             (IntKind.i64.wrap
                                                 (IntKind.i64.wrap
                                                     (IntKind.i64.wrap ((24 : Int) + (↑x.l1.length : Int)) +
                                                       p (↑x.l1.length : Int)) +
                                                   (↑x.l2.length : Int)) +
                                               p (↑x.l2.length : Int))))
                                         (2 : Int) ++
                                     g (IntKind.u64.wrap x.d) (2 : Int)).length +
                                 (2 : Nat)) *
                               (1 : Nat) ≤
                             roomB ∧
                           ([] ++
                                       [IV.int IntKind.u8 (IntKind.u8.wrap (IntKind.i64.wrap (x.a + (128 : Int)))),
                                         IV.int IntKind.u8 (0 : Int)] ++
                                     g
                                       (IntKind.u64.wrap
                                         (IntKind.i64.wrap
                                           (IntKind.i64.wrap
                                               (IntKind.i64.wrap
                                                   (IntKind.i64.wrap ((24 : Int) + (↑x.l1.length : Int)) +
                                                     p (↑x.l1.length : Int)) +
                                                 (↑x.l2.length : Int)) +
                                             p (↑x.l2.length : Int))))
                                       (2 : Int) ++
                                   g (IntKind.u64.wrap x.d) (2 : Int)).length +
                               (2 : Nat) ≤
                             maxLen) then
                     bif c (IntKind.u64.wrap x.ts) (4 : Int) then
                       bif
                           decide
                             ((([] ++
                                               [IV.int IntKind.u8 (IntKind.u8.wrap (IntKind.i64.wrap (x.a + (128 : Int)))),
                                                 IV.int IntKind.u8 (0 : Int)] ++
                                             g
                                               (IntKind.u64.wrap
                                                 (IntKind.i64.wrap
                                                   (IntKind.i64.wrap
                                                       (IntKind.i64.wrap
                                                           (IntKind.i64.wrap ((24 : Int) + (↑x.l1.length : Int)) +
                                                             p (↑x.l1.length : Int)) +
                                                         (↑x.l2.length : Int)) +
                                                     p (↑x.l2.length : Int))))
                                               (2 : Int) ++
                                           g (IntKind.u64.wrap x.d) (2 : Int) ++
                                         [IV.int IntKind.u8 (0 : Int), IV.int IntKind.u8 (0 : Int)]).length +
                                     (g (IntKind.u64.wrap x.ts) (4 : Int)).length) *
                                   (1 : Nat) ≤
                                 roomB ∧
                               ([] ++
                                             [IV.int IntKind.u8 (IntKind.u8.wrap (IntKind.i64.wrap (x.a + (128 : Int)))),
                                               IV.int IntKind.u8 (0 : Int)] ++
                                           g
                                             (IntKind.u64.wrap
                                               (IntKind.i64.wrap
                                                 (IntKind.i64.wrap
                                                     (IntKind.i64.wrap
                                                         (IntKind.i64.wrap ((24 : Int) + (↑x.l1.length : Int)) +
                                                           p (↑x.l1.length : Int)) +
                                                       (↑x.l2.length : Int)) +
                                                   p (↑x.l2.length : Int))))
                                             (2 : Int) ++
                                         g (IntKind.u64.wrap x.d) (2 : Int) ++
                                       [IV.int IntKind.u8 (0 : Int), IV.int IntKind.u8 (0 : Int)]).length +
                                   (g (IntKind.u64.wrap x.ts) (4 : Int)).length ≤
                                 maxLen) then
                         bif c (IntKind.u64.wrap x.fs) (4 : Int) then
                           bif
                               decide
                                 ((([] ++
                                                     [IV.int IntKind.u8
                                                         (IntKind.u8.wrap (IntKind.i64.wrap (x.a + (128 : Int)))),
                                                       IV.int IntKind.u8 (0 : Int)] ++
                                                   g
                                                     (IntKind.u64.wrap
                                                       (IntKind.i64.wrap
                                                         (IntKind.i64.wrap
                                                             (IntKind.i64.wrap
                                                                 (IntKind.i64.wrap ((24 : Int) + (↑x.l1.length : Int)) +
                                                                   p (↑x.l1.length : Int)) +
                                                               (↑x.l2.length : Int)) +
                                                           p (↑x.l2.length : Int))))
                                                     (2 : Int) ++
                                                 g (IntKind.u64.wrap x.d) (2 : Int) ++
                                               [IV.int IntKind.u8 (0 : Int), IV.int IntKind.u8 (0 : Int)] ++
                                             g (IntKind.u64.wrap x.ts) (4 : Int)).length +
                                         (g (IntKind.u64.wrap x.fs) (4 : Int)).length) *
                                       (1 : Nat) ≤
                                     roomB ∧
                                   ([] ++
                                                   [IV.int IntKind.u8
                                                       (IntKind.u8.wrap (IntKind.i64.wrap (x.a + (128 : Int)))),
                                                     IV.int IntKind.u8 (0 : Int)] ++
                                                 g
                                                   (IntKind.u64.wrap
                                                     (IntKind.i64.wrap
                                                       (IntKind.i64.wrap
                                                           (IntKind.i64.wrap
                                                               (IntKind.i64.wrap ((24 : Int) + (↑x.l1.length : Int)) +
                                                                 p (↑x.l1.length : Int)) +
                                                             (↑x.l2.length : Int)) +
                                                         p (↑x.l2.length : Int))))
                                                   (2 : Int) ++
                                               g (IntKind.u64.wrap x.d) (2 : Int) ++
                                             [IV.int IntKind.u8 (0 : Int), IV.int IntKind.u8 (0 : Int)] ++
                                           g (IntKind.u64.wrap x.ts) (4 : Int)).length +
                                       (g (IntKind.u64.wrap x.fs) (4 : Int)).length ≤
                                     maxLen) then
                             bif c2 x.z1 x.l1 then
                               bif
                                   decide
                                     ((([] ++
                                                           [IV.int IntKind.u8
                                                               (IntKind.u8.wrap (IntKind.i64.wrap (x.a + (128 : Int)))),
                                                             IV.int IntKind.u8 (0 : Int)] ++
                                                         g
                                                           (IntKind.u64.wrap
                                                             (IntKind.i64.wrap
                                                               (IntKind.i64.wrap
                                                                   (IntKind.i64.wrap
                                                                       (IntKind.i64.wrap
                                                                           ((24 : Int) + (↑x.l1.length : Int)) +
                                                                         p (↑x.l1.length : Int)) +
                                                                     (↑x.l2.length : Int)) +
                                                                 p (↑x.l2.length : Int))))
                                                           (2 : Int) ++
                                                       g (IntKind.u64.wrap x.d) (2 : Int) ++
                                                     [IV.int IntKind.u8 (0 : Int), IV.int IntKind.u8 (0 : Int)] ++
                                                   g (IntKind.u64.wrap x.ts) (4 : Int) ++
                                                 g (IntKind.u64.wrap x.fs) (4 : Int)).length +
                                             (g2 x.l1).length) *
                                           (1 : Nat) ≤
                                         roomB ∧
                                       ([] ++
                                                         [IV.int IntKind.u8
                                                             (IntKind.u8.wrap (IntKind.i64.wrap (x.a + (128 : Int)))),
                                                           IV.int IntKind.u8 (0 : Int)] ++
                                                       g
                                                         (IntKind.u64.wrap
                                                           (IntKind.i64.wrap
                                                             (IntKind.i64.wrap
                                                                 (IntKind.i64.wrap
                                                                     (IntKind.i64.wrap
                                                                         ((24 : Int) + (↑x.l1.length : Int)) +
                                                                       p (↑x.l1.length : Int)) +
                                                                   (↑x.l2.length : Int)) +
                                                               p (↑x.l2.length : Int))))
                                                         (2 : Int) ++
                                                     g (IntKind.u64.wrap x.d) (2 : Int) ++
                                                   [IV.int IntKind.u8 (0 : Int), IV.int IntKind.u8 (0 : Int)] ++
                                                 g (IntKind.u64.wrap x.ts) (4 : Int) ++
                                               g (IntKind.u64.wrap x.fs) (4 : Int)).length +
                                           (g2 x.l1).length ≤
                                         maxLen) then
                                 bif c2 x.z2 x.l2 then
                                   bif
                                       decide
                                         ((([] ++
                                                                 [IV.int IntKind.u8
                                                                     (IntKind.u8.wrap
                                                                       (IntKind.i64.wrap (x.a + (128 : Int)))),
                                                                   IV.int IntKind.u8 (0 : Int)] ++
                                                               g
                                                                 (IntKind.u64.wrap
                                                                   (IntKind.i64.wrap
                                                                     (IntKind.i64.wrap
                                                                         (IntKind.i64.wrap
                                                                             (IntKind.i64.wrap
                                                                                 ((24 : Int) + (↑x.l1.length : Int)) +
                                                                               p (↑x.l1.length : Int)) +
                                                                           (↑x.l2.length : Int)) +
                                                                       p (↑x.l2.length : Int))))
                                                                 (2 : Int) ++
                                                             g (IntKind.u64.wrap x.d) (2 : Int) ++
                                                           [IV.int IntKind.u8 (0 : Int), IV.int IntKind.u8 (0 : Int)] ++
                                                         g (IntKind.u64.wrap x.ts) (4 : Int) ++
                                                       g (IntKind.u64.wrap x.fs) (4 : Int) ++
                                                     g2 x.l1).length +
                                                 (g2 x.l2).length) *
                                               (1 : Nat) ≤
                                             roomB ∧
                                           ([] ++
                                                               [IV.int IntKind.u8
                                                                   (IntKind.u8.wrap
                                                                     (IntKind.i64.wrap (x.a + (128 : Int)))),
                                                                 IV.int IntKind.u8 (0 : Int)] ++
                                                             g
                                                               (IntKind.u64.wrap
                                                                 (IntKind.i64.wrap
                                                                   (IntKind.i64.wrap
                                                                       (IntKind.i64.wrap
                                                                           (IntKind.i64.wrap
                                                                               ((24 : Int) + (↑x.l1.length : Int)) +
                                                                             p (↑x.l1.length : Int)) +
                                                                         (↑x.l2.length : Int)) +
                                                                     p (↑x.l2.length : Int))))
                                                               (2 : Int) ++
                                                           g (IntKind.u64.wrap x.d) (2 : Int) ++
                                                         [IV.int IntKind.u8 (0 : Int), IV.int IntKind.u8 (0 : Int)] ++
                                                       g (IntKind.u64.wrap x.ts) (4 : Int) ++
                                                     g (IntKind.u64.wrap x.fs) (4 : Int) ++
                                                   g2 x.l1).length +
                                               (g2 x.l2).length ≤
                                             maxLen) then
                                     some
                                       (IV.osl (nat_lit 0) (nat_lit 0),
                                         [Blk.row (nat_lit 0) false (nat_lit 1)
                                             (IV.int IntKind.u8 (IntKind.u8.wrap (IntKind.i64.wrap (x.a + (128 : Int)))) ::
                                               IV.int IntKind.u8 (0 : Int) ::
                                                 (g
                                                               (IntKind.u64.wrap
                                                                 (IntKind.i64.wrap
                                                                   (IntKind.i64.wrap
                                                                       (IntKind.i64.wrap
                                                                           (IntKind.i64.wrap
                                                                               ((24 : Int) + (↑x.l1.length : Int)) +
                                                                             p (↑x.l1.length : Int)) +
                                                                         (↑x.l2.length : Int)) +
                                                                     p (↑x.l2.length : Int))))
                                                               (2 : Int) ++
                                                             g (IntKind.u64.wrap x.d) (2 : Int) ++
                                                           [IV.int IntKind.u8 (0 : Int), IV.int IntKind.u8 (0 : Int)] ++
                                                         g (IntKind.u64.wrap x.ts) (4 : Int) ++
                                                       g (IntKind.u64.wrap x.fs) (4 : Int) ++
                                                     g2 x.l1 ++
                                                   g2 x.l2))])
                                   else none
                                 else none
                               else none
                             else none
                           else none
                         else none
                       else none
                     else none
                   else none
                 else none
               else none
             else none
           else none
         else none
       else none
   else
     bif x.c then
       bif q (↑x.l1.length : Int) then
         bif q (↑x.l2.length : Int) then
           bif
               c
                 (IntKind.u64.wrap
                   (IntKind.i64.wrap
                     (IntKind.i64.wrap
                         (IntKind.i64.wrap
                             (IntKind.i64.wrap ((24 : Int) + (↑x.l1.length : Int)) + p (↑x.l1.length : Int)) +
                           (↑x.l2.length : Int)) +
                       p (↑x.l2.length : Int))))
                 (2 : Int) then
             bif
                 decide
                   ((([] ++
                               [IV.int IntKind.u8 (IntKind.u8.wrap (IntKind.i64.wrap (x.a + (64 : Int)))),
                                 IV.int IntKind.u8 (0 : Int)]).length +
                           (g
                               (IntKind.u64.wrap
                                 (IntKind.i64.wrap
                                   (IntKind.i64.wrap
                                       (IntKind.i64.wrap
                                           (IntKind.i64.wrap ((24 : Int) + (↑x.l1.length : Int)) +
                                             p (↑x.l1.length : Int)) +
                                         (↑x.l2.length : Int)) +
                                     p (↑x.l2.length : Int))))
                               (2 : Int)).length) *
                         (1 : Nat) ≤
                       roomB ∧
                     ([] ++
                             [IV.int IntKind.u8 (IntKind.u8.wrap (IntKind.i64.wrap (x.a + (64 : Int)))),
                               IV.int IntKind.u8 (0 : Int)]).length +
                         (g
                             (IntKind.u64.wrap
                               (IntKind.i64.wrap
                                 (IntKind.i64.wrap
                                     (IntKind.i64.wrap
                                         (IntKind.i64.wrap ((24 : Int) + (↑x.l1.length : Int)) + p (↑x.l1.length : Int)) +
                                       (↑x.l2.length : Int)) +
                                   p (↑x.l2.length : Int))))
                             (2 : Int)).length ≤
                       maxLen) then
               bif c (IntKind.u64.wrap x.d) (2 : Int) then
                 bif
                     decide
                       ((([] ++
                                     [IV.int IntKind.u8 (IntKind.u8.wrap (IntKind.i64.wrap (x.a + (64 : Int)))),
                                       IV.int IntKind.u8 (0 : Int)] ++
                                   g
                                     (IntKind.u64.wrap
                                       (IntKind.i64.wrap
                                         (IntKind.i64.wrap
                                             (IntKind.i64.wrap
                                                 (IntKind.i64.wrap ((24 : Int) + (↑x.l1.length : Int)) +
                                                   p (↑x.l1.length : Int)) +
                                               (↑x.l2.length : Int)) +
                                           p (↑x.l2.length : Int))))
                                     (2 : Int)).length +
                               (g (IntKind.u64.wrap x.d) (2 : Int)).length) *
                             (1 : Nat) ≤
                           roomB ∧
                         ([] ++
                                   [IV.int IntKind.u8 (IntKind.u8.wrap (IntKind.i64.wrap (x.a + (64 : Int)))),
                                     IV.int IntKind.u8 (0 : Int)] ++
                                 g
                                   (IntKind.u64.wrap
                                     (IntKind.i64.wrap
                                       (IntKind.i64.wrap
                                           (IntKind.i64.wrap
                                               (IntKind.i64.wrap ((24 : Int) + (↑x.l1.length : Int)) +
                                                 p (↑x.l1.length : Int)) +
                                             (↑x.l2.length : Int)) +
                                         p (↑x.l2.length : Int))))
                                   (2 : Int)).length +
                             (g (IntKind.u64.wrap x.d) (2 : Int)).length ≤
                           maxLen) then
                   bif
                       decide
                         ((([] ++
                                         [IV.int IntKind.u8 (IntKind.u8.wrap (IntKind.i64.wrap (x.a + (64 : Int)))),
                                           IV.int IntKind.u8 (0 : Int)] ++
                                       g
                                         (IntKind.u64.wrap
                                           (IntKind.i64.wrap
                                             (IntKind.i64.wrap
                                                 (IntKind.i64.wrap
                                                     (IntKind.i64.wrap ((24 : Int) + (↑x.l1.length : Int)) +
                                                       p (↑x.l1.length : Int)) +
                                                   (↑x.l2.length : Int)) +
                                               p (↑x.l2.length : Int))))
                                         (2 : Int) ++
                                     g (IntKind.u64.wrap x.d) (2 : Int)).length +
                                 (2 : Nat)) *
                               (1 : Nat) ≤
                             roomB ∧
                           ([] ++
                                       [IV.int IntKind.u8 (IntKind.u8.wrap (IntKind.i64.wrap (x.a + (64 : Int)))),
                                         IV.int IntKind.u8 (0 : Int)] ++
                                     g
                                       (IntKind.u64.wrap
                                         (IntKind.i64.wrap
                                           (IntKind.i64.wrap
                                               (IntKind.i64.wrap
                                                   (IntKind.i64.wrap ((24 : Int) + (↑x.l1.length : Int)) +
                                                     p (↑x.l1.length : Int)) +
                                                 (↑x.l2.length : Int)) +
                                             p (↑x.l2.length : Int))))
                                       (2 : Int) ++
                                   g (IntKind.u64.wrap x.d) (2 : Int)).length +
                               (2 : Nat) ≤
                             maxLen) then
                     bif c (IntKind.u64.wrap x.ts) (4 : Int) then
                       bif
                           decide
                             ((([] ++
                                               [IV.int IntKind.u8 (IntKind.u8.wrap (IntKind.i64.wrap (x.a + (64 : Int)))),
                                                 IV.int IntKind.u8 (0 : Int)] ++
                                             g
                                               (IntKind.u64.wrap
                                                 (IntKind.i64.wrap
                                                   (IntKind.i64.wrap
                                                       (IntKind.i64.wrap
                                                           (IntKind.i64.wrap ((24 : Int) + (↑x.l1.length : Int)) +
                                                             p (↑x.l1.length : Int)) +
                                                         (↑x.l2.length : Int)) +
                                                     p (↑x.l2.length : Int))))
                                               (2 : Int) ++
                                           g (IntKind.u64.wrap x.d) (2 : Int) ++
                                         [IV.int IntKind.u8 (0 : Int), IV.int IntKind.u8 (0 : Int)]).length +
                                     (g (IntKind.u64.wrap x.ts) (4 : Int)).length) *
                                   (1 : Nat) ≤
                                 roomB ∧
                               ([] ++
                                             [IV.int IntKind.u8 (IntKind.u8.wrap (IntKind.i64.wrap (x.a + (64 : Int)))),
                                               IV.int IntKind.u8 (0 : Int)] ++
                                           g
                                             (IntKind.u64.wrap
                                               (IntKind.i64.wrap
                                                 (IntKind.i64.wrap
                                                     (IntKind.i64.wrap
                                                         (IntKind.i64.wrap ((24 : Int) + (↑x.l1.length : Int)) +
                                                           p (↑x.l1.length : Int)) +
                                                       (↑x.l2.length : Int)) +
                                                   p (↑x.l2.length : Int))))
                                             (2 : Int) ++
                                         g (IntKind.u64.wrap x.d) (2 : Int) ++
                                       [IV.int IntKind.u8 (0 : Int), IV.int IntKind.u8 (0 : Int)]).length +
                                   (g (IntKind.u64.wrap x.ts) (4 : Int)).length ≤
                                 maxLen) then
                         bif c (IntKind.u64.wrap x.fs) (4 : Int) then
                           bif
                               decide
                                 ((([] ++
                                                     [IV.int IntKind.u8
                                                         (IntKind.u8.wrap (IntKind.i64.wrap (x.a + (64 : Int)))),
                                                       IV.int IntKind.u8 (0 : Int)] ++
                                                   g
                                                     (IntKind.u64.wrap
                                                       (IntKind.i64.wrap
                                                         (IntKind.i64.wrap
                                                             (IntKind.i64.wrap
                                                                 (IntKind.i64.wrap ((24 : Int) + (↑x.l1.length : Int)) +
                                                                   p (↑x.l1.length : Int)) +
                                                               (↑x.l2.length : Int)) +
                                                           p (↑x.l2.length : Int))))
                                                     (2 : Int) ++
                                                 g (IntKind.u64.wrap x.d) (2 : Int) ++
                                               [IV.int IntKind.u8 (0 : Int), IV.int IntKind.u8 (0 : Int)] ++
                                             g (IntKind.u64.wrap x.ts) (4 : Int)).length +
                                         (g (IntKind.u64.wrap x.fs) (4 : Int)).length) *
                                       (1 : Nat) ≤
                                     roomB ∧
                                   ([] ++
                                                   [IV.int IntKind.u8
                                                       (IntKind.u8.wrap (IntKind.i64.wrap (x.a + (64 : Int)))),
                                                     IV.int IntKind.u8 (0 : Int)] ++
                                                 g
                                                   (IntKind.u64.wrap
                                                     (IntKind.i64.wrap
                                                       (IntKind.i64.wrap
                                                           (IntKind.i64.wrap
                                                               (IntKind.i64.wrap ((24 : Int) + (↑x.l1.length : Int)) +
                                                                 p (↑x.l1.length : Int)) +
                                                             (↑x.l2.length : Int)) +
                                                         p (↑x.l2.length : Int))))
                                                   (2 : Int) ++
                                               g (IntKind.u64.wrap x.d) (2 : Int) ++
                                             [IV.int IntKind.u8 (0 : Int), IV.int IntKind.u8 (0 : Int)] ++
                                           g (IntKind.u64.wrap x.ts) (4 : Int)).length +
                                       (g (IntKind.u64.wrap x.fs) (4 : Int)).length ≤
                                     maxLen) then
                             bif c2 x.z1 x.l1 then
                               bif
                                   decide
                                     ((([] ++
                                                           [IV.int IntKind.u8
                                                               (IntKind.u8.wrap (IntKind.i64.wrap (x.a + (64 : Int)))),
                                                             IV.int IntKind.u8 (0 : Int)] ++
                                                         g
                                                           (IntKind.u64.wrap
                                                             (IntKind.i64.wrap
                                                               (IntKind.i64.wrap
                                                                   (IntKind.i64.wrap
                                                                       (IntKind.i64.wrap
                                                                           ((24 : Int) + (↑x.l1.length : Int)) +
                                                                         p (↑x.l1.length : Int)) +
                                                                     (↑x.l2.length : Int)) +
                                                                 p (↑x.l2.length : Int))))
                                                           (2 : Int) ++
                                                       g (IntKind.u64.wrap x.d) (2 : Int) ++
                                                     [IV.int IntKind.u8 (0 : Int), IV.int IntKind.u8 (0 : Int)] ++
                                                   g (IntKind.u64.wrap x.ts) (4 : Int) ++
                                                 g (IntKind.u64.wrap x.fs) (4 : Int)).length +
                                             (g2 x.l1).length) *
                                           (1 : Nat) ≤
                                         roomB ∧
                                       ([] ++
                                                         [IV.int IntKind.u8
                                                             (IntKind.u8.wrap (IntKind.i64.wrap (x.a + (64 : Int)))),
                                                           IV.int IntKind.u8 (0 : Int)] ++
                                                       g
                                                         (IntKind.u64.wrap
                                                           (IntKind.i64.wrap
                                                             (IntKind.i64.wrap
                                                                 (IntKind.i64.wrap
                                                                     (IntKind.i64.wrap
                                                                         ((24 : Int) + (↑x.l1.length : Int)) +
                                                                       p (↑x.l1.length : Int)) +
                                                                   (↑x.l2.length : Int)) +
                                                               p (↑x.l2.length : Int))))
                                                         (2 : Int) ++
                                                     g (IntKind.u64.wrap x.d) (2 : Int) ++
                                                   [IV.int IntKind.u8 (0 : Int), IV.int IntKind.u8 (0 : Int)] ++
                                                 g (IntKind.u64.wrap x.ts) (4 : Int) ++
                                               g (IntKind.u64.wrap x.fs) (4 : Int)).length +
                                           (g2 x.l1).length ≤
                                         maxLen) then
                                 bif c2 x.z2 x.l2 then
                                   bif
                                       decide
                                         ((([] ++
                                                                 [IV.int IntKind.u8
                                                                     (IntKind.u8.wrap
                                                                       (IntKind.i64.wrap (x.a + (64 : Int)))),
                                                                   IV.int IntKind.u8 (0 : Int)] ++
                                                               g
                                                                 (IntKind.u64.wrap
                                                                   (IntKind.i64.wrap
                                                                     (IntKind.i64.wrap
                                                                         (IntKind.i64.wrap
                                                                             (IntKind.i64.wrap
                                                                                 ((24 : Int) + (↑x.l1.length : Int)) +
                                                                               p (↑x.l1.length : Int)) +
                                                                           (↑x.l2.length : Int)) +
                                                                       p (↑x.l2.length : Int))))
                                                                 (2 : Int) ++
                                                             g (IntKind.u64.wrap x.d) (2 : Int) ++
                                                           [IV.int IntKind.u8 (0 : Int), IV.int IntKind.u8 (0 : Int)] ++
                                                         g (IntKind.u64.wrap x.ts) (4 : Int) ++
                                                       g (IntKind.u64.wrap x.fs) (4 : Int) ++
                                                     g2 x.l1).length +
                                                 (g2 x.l2).length) *
                                               (1 : Nat) ≤
                                             roomB ∧
                                           ([] ++
                                                               [IV.int IntKind.u8
                                                                   (IntKind.u8.wrap (IntKind.i64.wrap (x.a + (64 : Int)))),
                                                                 IV.int IntKind.u8 (0 : Int)] ++
                                                             g
                                                               (IntKind.u64.wrap
                                                                 (IntKind.i64.wrap
                                                                   (IntKind.i64.wrap
                                                                       (IntKind.i64.wrap
                                                                           (IntKind.i64.wrap
                                                                               ((24 : Int) + (↑x.l1.length : Int)) +
                                                                             p (↑x.l1.length : Int)) +
                                                                         (↑x.l2.length : Int)) +
                                                                     p (↑x.l2.length : Int))))
                                                               (2 : Int) ++
                                                           g (IntKind.u64.wrap x.d) (2 : Int) ++
                                                         [IV.int IntKind.u8 (0 : Int), IV.int IntKind.u8 (0 : Int)] ++
                                                       g (IntKind.u64.wrap x.ts) (4 : Int) ++
                                                     g (IntKind.u64.wrap x.fs) (4 : Int) ++
                                                   g2 x.l1).length +
                                               (g2 x.l2).length ≤
                                             maxLen) then
                                     some
                                       (IV.osl (nat_lit 0) (nat_lit 0),
                                         [Blk.row (nat_lit 0) false (nat_lit 1)
                                             (IV.int IntKind.u8 (IntKind.u8.wrap (IntKind.i64.wrap (x.a + (64 : Int)))) ::
                                               IV.int IntKind.u8 (0 : Int) ::
                                                 (g
                                                               (IntKind.u64.wrap
                                                                 (IntKind.i64.wrap
                                                                   (IntKind.i64.wrap
                                                                       (IntKind.i64.wrap
                                                                           (IntKind.i64.wrap
                                                                               ((24 : Int) + (↑x.l1.length : Int)) +
                                                                             p (↑x.l1.length : Int)) +
                                                                         (↑x.l2.length : Int)) +
                                                                     p (↑x.l2.length : Int))))
                                                               (2 : Int) ++
                                                             g (IntKind.u64.wrap x.d) (2 : Int) ++
                                                           [IV.int IntKind.u8 (0 : Int), IV.int IntKind.u8 (0 : Int)] ++
                                                         g (IntKind.u64.wrap x.ts) (4 : Int) ++
                                                       g (IntKind.u64.wrap x.fs) (4 : Int) ++
                                                     g2 x.l1 ++
                                                   g2 x.l2))])
                                   else none
                                 else none
                               else none
                             else none
                           else none
                         else none
                       else none
                     else none
                   else none
                 else none
               else none
             else none
           else none
         else none
       else none
     else
       bif q (↑x.l1.length : Int) then
         bif q (↑x.l2.length : Int) then
           bif
               c
                 (IntKind.u64.wrap
                   (IntKind.i64.wrap
                     (IntKind.i64.wrap
                         (IntKind.i64.wrap
                             (IntKind.i64.wrap ((24 : Int) + (↑x.l1.length : Int)) + p (↑x.l1.length : Int)) +
                           (↑x.l2.length : Int)) +
                       p (↑x.l2.length : Int))))
                 (2 : Int) then
             bif
                 decide
                   ((([] ++ [IV.int IntKind.u8 (IntKind.u8.wrap x.a), IV.int IntKind.u8 (0 : Int)]).length +
                           (g
                               (IntKind.u64.wrap
                                 (IntKind.i64.wrap
                                   (IntKind.i64.wrap
                                       (IntKind.i64.wrap
                                           (IntKind.i64.wrap ((24 : Int) + (↑x.l1.length : Int)) +
                                             p (↑x.l1.length : Int)) +
                                         (↑x.l2.length : Int)) +
                                     p (↑x.l2.length : Int))))
                               (2 : Int)).length) *
                         (1 : Nat) ≤
                       roomB ∧
                     ([] ++ [IV.int IntKind.u8 (IntKind.u8.wrap x.a), IV.int IntKind.u8 (0 : Int)]).length +
                         (g
                             (IntKind.u64.wrap
                               (IntKind.i64.wrap
                                 (IntKind.i64.wrap
                                     (IntKind.i64.wrap
                                         (IntKind.i64.wrap ((24 : Int) + (↑x.l1.length : Int)) + p (↑x.l1.length : Int)) +
                                       (↑x.l2.length : Int)) +
                                   p (↑x.l2.length : Int))))
                             (2 : Int)).length ≤
                       maxLen) then
               bif c (IntKind.u64.wrap x.d) (2 : Int) then
                 bif
                     decide
                       ((([] ++ [IV.int IntKind.u8 (IntKind.u8.wrap x.a), IV.int IntKind.u8 (0 : Int)] ++
                                   g
                                     (IntKind.u64.wrap
                                       (IntKind.i64.wrap
                                         (IntKind.i64.wrap
                                             (IntKind.i64.wrap
                                                 (IntKind.i64.wrap ((24 : Int) + (↑x.l1.length : Int)) +
                                                   p (↑x.l1.length : Int)) +
                                               (↑x.l2.length : Int)) +
                                           p (↑x.l2.length : Int))))
                                     (2 : Int)).length +
                               (g (IntKind.u64.wrap x.d) (2 : Int)).length) *
                             (1 : Nat) ≤
                           roomB ∧
                         ([] ++ [IV.int IntKind.u8 (IntKind.u8.wrap x.a), IV.int IntKind.u8 (0 : Int)] ++
                                 g
                                   (IntKind.u64.wrap
                                     (IntKind.i64.wrap
                                       (IntKind.i64.wrap
                                           (IntKind.i64.wrap
                                               (IntKind.i64.wrap ((24 : Int) + (↑x.l1.length : Int)) +
                                                 p (↑x.l1.length : Int)) +
                                             (↑x.l2.length : Int)) +
                                         p (↑x.l2.length : Int))))
                                   (2 : Int)).length +
                             (g (IntKind.u64.wrap x.d) (2 : Int)).length ≤
                           maxLen) then
                   bif
                       decide
                         ((([] ++ [IV.int IntKind.u8 (IntKind.u8.wrap x.a), IV.int IntKind.u8 (0 : Int)] ++
                                       g
                                         (IntKind.u64.wrap
                                           (IntKind.i64.wrap
                                             (IntKind.i64.wrap
                                                 (IntKind.i64.wrap
                                                     (IntKind.i64.wrap ((24 : Int) + (↑x.l1.length : Int)) +
                                                       p (↑x.l1.length : Int)) +
                                                   (↑x.l2.length : Int)) +
                                               p (↑x.l2.length : Int))))
                                         (2 : Int) ++
                                     g (IntKind.u64.wrap x.d) (2 : Int)).length +
                                 (2 : Nat)) *
                               (1 : Nat) ≤
                             roomB ∧
                           ([] ++ [IV.int IntKind.u8 (IntKind.u8.wrap x.a), IV.int IntKind.u8 (0 : Int)] ++
                                     g
                                       (IntKind.u64.wrap
                                         (IntKind.i64.wrap
                                           (IntKind.i64.wrap
                                               (IntKind.i64.wrap
                                                   (IntKind.i64.wrap ((24 : Int) + (↑x.l1.length : Int)) +
                                                     p (↑x.l1.length : Int)) +
                                                 (↑x.l2.length : Int)) +
                                             p (↑x.l2.length : Int))))
                                       (2 : Int) ++
                                   g (IntKind.u64.wrap x.d) (2 : Int)).length +
                               (2 : Nat) ≤
                             maxLen) then
                     bif c (IntKind.u64.wrap x.ts) (4 : Int) then
                       bif
                           decide
                             ((([] ++ [IV.int IntKind.u8 (IntKind.u8.wrap x.a), IV.int IntKind.u8 (0 : Int)] ++
                                             g
                                               (IntKind.u64.wrap
                                                 (IntKind.i64.wrap
                                                   (IntKind.i64.wrap
                                                       (IntKind.i64.wrap
                                                           (IntKind.i64.wrap ((24 : Int) + (↑x.l1.length : Int)) +
                                                             p (↑x.l1.length : Int)) +
                                                         (↑x.l2.length : Int)) +
                                                     p (↑x.l2.length : Int))))
                                               (2 : Int) ++
                                           g (IntKind.u64.wrap x.d) (2 : Int) ++
                                         [IV.int IntKind.u8 (0 : Int), IV.int IntKind.u8 (0 : Int)]).length +
                                     (g (IntKind.u64.wrap x.ts) (4 : Int)).length) *
                                   (1 : Nat) ≤
                                 roomB ∧
                               ([] ++ [IV.int IntKind.u8 (IntKind.u8.wrap x.a), IV.int IntKind.u8 (0 : Int)] ++
                                           g
                                             (IntKind.u64.wrap
                                               (IntKind.i64.wrap
                                                 (IntKind.i64.wrap
                                                     (IntKind.i64.wrap
                                                         (IntKind.i64.wrap ((24 : Int) + (↑x.l1.length : Int)) +
                                                           p (↑x.l1.length : Int)) +
                                                       (↑x.l2.length : Int)) +
                                                   p (↑x.l2.length : Int))))
                                             (2 : Int) ++
                                         g (IntKind.u64.wrap x.d) (2 : Int) ++
                                       [IV.int IntKind.u8 (0 : Int), IV.int IntKind.u8 (0 : Int)]).length +
                                   (g (IntKind.u64.wrap x.ts) (4 : Int)).length ≤
                                 maxLen) then
                         bif c (IntKind.u64.wrap x.fs) (4 : Int) then
                           bif
                               decide
                                 ((([] ++ [IV.int IntKind.u8 (IntKind.u8.wrap x.a), IV.int IntKind.u8 (0 : Int)] ++
                                                   g
                                                     (IntKind.u64.wrap
                                                       (IntKind.i64.wrap
                                                         (IntKind.i64.wrap
                                                             (IntKind.i64.wrap
                                                                 (IntKind.i64.wrap ((24 : Int) + (↑x.l1.length : Int)) +
                                                                   p (↑x.l1.length : Int)) +
                                                               (↑x.l2.length : Int)) +
                                                           p (↑x.l2.length : Int))))
                                                     (2 : Int) ++
                                                 g (IntKind.u64.wrap x.d) (2 : Int) ++
                                               [IV.int IntKind.u8 (0 : Int), IV.int IntKind.u8 (0 : Int)] ++
                                             g (IntKind.u64.wrap x.ts) (4 : Int)).length +
                                         (g (IntKind.u64.wrap x.fs) (4 : Int)).length) *
                                       (1 : Nat) ≤
                                     roomB ∧
                                   ([] ++ [IV.int IntKind.u8 (IntKind.u8.wrap x.a), IV.int IntKind.u8 (0 : Int)] ++
                                                 g
                                                   (IntKind.u64.wrap
                                                     (IntKind.i64.wrap
                                                       (IntKind.i64.wrap
                                                           (IntKind.i64.wrap
                                                               (IntKind.i64.wrap ((24 : Int) + (↑x.l1.length : Int)) +
                                                                 p (↑x.l1.length : Int)) +
                                                             (↑x.l2.length : Int)) +
                                                         p (↑x.l2.length : Int))))
                                                   (2 : Int) ++
                                               g (IntKind.u64.wrap x.d) (2 : Int) ++
                                             [IV.int IntKind.u8 (0 : Int), IV.int IntKind.u8 (0 : Int)] ++
                                           g (IntKind.u64.wrap x.ts) (4 : Int)).length +
                                       (g (IntKind.u64.wrap x.fs) (4 : Int)).length ≤
                                     maxLen) then
                             bif c2 x.z1 x.l1 then
                               bif
                                   decide
                                     ((([] ++ [IV.int IntKind.u8 (IntKind.u8.wrap x.a), IV.int IntKind.u8 (0 : Int)] ++
                                                         g
                                                           (IntKind.u64.wrap
                                                             (IntKind.i64.wrap
                                                               (IntKind.i64.wrap
                                                                   (IntKind.i64.wrap
                                                                       (IntKind.i64.wrap
                                                                           ((24 : Int) + (↑x.l1.length : Int)) +
                                                                         p (↑x.l1.length : Int)) +
                                                                     (↑x.l2.length : Int)) +
                                                                 p (↑x.l2.length : Int))))
                                                           (2 : Int) ++
                                                       g (IntKind.u64.wrap x.d) (2 : Int) ++
                                                     [IV.int IntKind.u8 (0 : Int), IV.int IntKind.u8 (0 : Int)] ++
                                                   g (IntKind.u64.wrap x.ts) (4 : Int) ++
                                                 g (IntKind.u64.wrap x.fs) (4 : Int)).length +
                                             (g2 x.l1).length) *
                                           (1 : Nat) ≤
                                         roomB ∧
                                       ([] ++ [IV.int IntKind.u8 (IntKind.u8.wrap x.a), IV.int IntKind.u8 (0 : Int)] ++
                                                       g
                                                         (IntKind.u64.wrap
                                                           (IntKind.i64.wrap
                                                             (IntKind.i64.wrap
                                                                 (IntKind.i64.wrap
                                                                     (IntKind.i64.wrap
                                                                         ((24 : Int) + (↑x.l1.length : Int)) +
                                                                       p (↑x.l1.length : Int)) +
                                                                   (↑x.l2.length : Int)) +
                                                               p (↑x.l2.length : Int))))
                                                         (2 : Int) ++
                                                     g (IntKind.u64.wrap x.d) (2 : Int) ++
                                                   [IV.int IntKind.u8 (0 : Int), IV.int IntKind.u8 (0 : Int)] ++
                                                 g (IntKind.u64.wrap x.ts) (4 : Int) ++
                                               g (IntKind.u64.wrap x.fs) (4 : Int)).length +
                                           (g2 x.l1).length ≤
                                         maxLen) then
                                 bif c2 x.z2 x.l2 then
                                   bif
                                       decide
                                         ((([] ++ [IV.int IntKind.u8 (IntKind.u8.wrap x.a), IV.int IntKind.u8 (0 : Int)] ++
                                                               g
                                                                 (IntKind.u64.wrap
                                                                   (IntKind.i64.wrap
                                                                     (IntKind.i64.wrap
                                                                         (IntKind.i64.wrap
                                                                             (IntKind.i64.wrap
                                                                                 ((24 : Int) + (↑x.l1.length : Int)) +
                                                                               p (↑x.l1.length : Int)) +
                                                                           (↑x.l2.length : Int)) +
                                                                       p (↑x.l2.length : Int))))
                                                                 (2 : Int) ++
                                                             g (IntKind.u64.wrap x.d) (2 : Int) ++
                                                           [IV.int IntKind.u8 (0 : Int), IV.int IntKind.u8 (0 : Int)] ++
                                                         g (IntKind.u64.wrap x.ts) (4 : Int) ++
                                                       g (IntKind.u64.wrap x.fs) (4 : Int) ++
                                                     g2 x.l1).length +
                                                 (g2 x.l2).length) *
                                               (1 : Nat) ≤
                                             roomB ∧
                                           ([] ++ [IV.int IntKind.u8 (IntKind.u8.wrap x.a), IV.int IntKind.u8 (0 : Int)] ++
                                                             g
                                                               (IntKind.u64.wrap
                                                                 (IntKind.i64.wrap
                                                                   (IntKind.i64.wrap
                                                                       (IntKind.i64.wrap
                                                                           (IntKind.i64.wrap
                                                                               ((24 : Int) + (↑x.l1.length : Int)) +
                                                                             p (↑x.l1.length : Int)) +
                                                                         (↑x.l2.length : Int)) +
                                                                     p (↑x.l2.length : Int))))
                                                               (2 : Int) ++
                                                           g (IntKind.u64.wrap x.d) (2 : Int) ++
                                                         [IV.int IntKind.u8 (0 : Int), IV.int IntKind.u8 (0 : Int)] ++
                                                       g (IntKind.u64.wrap x.ts) (4 : Int) ++
                                                     g (IntKind.u64.wrap x.fs) (4 : Int) ++
                                                   g2 x.l1).length +
                                               (g2 x.l2).length ≤
                                             maxLen) then
                                     some
                                       (IV.osl (nat_lit 0) (nat_lit 0),
                                         [Blk.row (nat_lit 0) false (nat_lit 1)
                                             (IV.int IntKind.u8 (IntKind.u8.wrap x.a) ::
                                               IV.int IntKind.u8 (0 : Int) ::
                                                 (g
                                                               (IntKind.u64.wrap
                                                                 (IntKind.i64.wrap
                                                                   (IntKind.i64.wrap
                                                                       (IntKind.i64.wrap
                                                                           (IntKind.i64.wrap
                                                                               ((24 : Int) + (↑x.l1.length : Int)) +
                                                                             p (↑x.l1.length : Int)) +
                                                                         (↑x.l2.length : Int)) +
                                                                     p (↑x.l2.length : Int))))
                                                               (2 : Int) ++
                                                             g (IntKind.u64.wrap x.d) (2 : Int) ++
                                                           [IV.int IntKind.u8 (0 : Int), IV.int IntKind.u8 (0 : Int)] ++
                                                         g (IntKind.u64.wrap x.ts) (4 : Int) ++
                                                       g (IntKind.u64.wrap x.fs) (4 : Int) ++
                                                     g2 x.l1 ++
                                                   g2 x.l2))])
                                   else none
                                 else none
                               else none
                             else none
                           else none
                         else none
                       else none
                     else none
                   else none
                 else none
               else none
             else none
           else none
         else none
       else none) := by kernel_rfl
theorem mac_all (h : Bool) (k : Int) (nl : Option Bool) (cl : Bool) (z : Nat) (l : List IV) (c : Int → Int → Bool) (g : Int → Int → List IV) : C (tab [(22, byP c g)]) 24 [.agg [.bool h, .int .u32 k, .fsl nl cl z l]] =
  (bif !h then some (IV.fsl (some true) true (nat_lit 0) [], [])
   else
     bif c (IntKind.u64.wrap k) (4 : Int) then
       bif
           decide
             (((0 : Nat) = (1 : Nat) ∨ (0 : Nat) = (0 : Nat)) ∧
               ((0 : Nat) = (0 : Nat) ∨ (0 : Nat) < (g (IntKind.u64.wrap k) (4 : Int)).length) ∧
                 ((0 : Nat) + (g (IntKind.u64.wrap k) (4 : Int)).length) * (1 : Nat) ≤ roomB ∧
                   (0 : Nat) + (g (IntKind.u64.wrap k) (4 : Int)).length ≤ maxLen) then
         bif decide (z = (1 : Nat) ∨ l.length = (0 : Nat)) then
           bif
               decide
                 ((([] ++ g (IntKind.u64.wrap k) (4 : Int)).length + l.length) * (1 : Nat) ≤ roomB ∧
                   ([] ++ g (IntKind.u64.wrap k) (4 : Int)).length + l.length ≤ maxLen) then
             some
               (IV.osl (nat_lit 0) (nat_lit 0),
                 [Blk.row (nat_lit 0) false (nat_lit 1) ([] ++ g (IntKind.u64.wrap k) (4 : Int) ++ l)])
           else none
         else none
       else none
     else none) := by kernel_rfl
theorem sx_all (x y : XV) : C (tab []) 26 [x.iv, y.iv] =
  (bif decide (x.z1 = (1 : Nat) ∨ x.l1.length = (0 : Nat)) && isBytes x.l1 then
     bif decide (y.z1 = (1 : Nat) ∨ y.l1.length = (0 : Nat)) && isBytes y.l1 then
       bif decide (x.z2 = (1 : Nat) ∨ x.l2.length = (0 : Nat)) && isBytes x.l2 then
         bif decide (y.z2 = (1 : Nat) ∨ y.l2.length = (0 : Nat)) && isBytes y.l2 then
           some
             (IV.bool
                 (bif
                     bif
                         bif
                             bif
                                 bif bif bif x.a == y.a then x.b == y.b else false then x.c == y.c else false then
                                   x.d == y.d
                                 else false then
                               x.ts == y.ts
                             else false then
                           x.fs == y.fs
                         else false then
                       toBytes x.l1 == toBytes y.l1
                     else false then
                   toBytes x.l2 == toBytes y.l2
                 else false),
               [])
         else none
       else none
     else none
   else none) := by kernel_rfl
theorem hv_in (p : PK) (b : Bool) (n i : Int) : Rd (tab []) 0 7 122 (Sx 7 [.ptr 0 0, .bool b, .int .i64 n, .int .i64 i] [.var false p.cells]) =
  (bif decide (i < (↑p.es.length : Int)) then
     bif decide (p.z1 = (8 : Nat) ∧ (0 : Int) ≤ i ∧ i < (↑p.es.length : Int)) then
       bif isOf LT.sl (nthD (List.drop (6 : Nat) (nthD p.es i.toNat).cells) (0 : Nat)) then
         bif decide (p.z1 = (8 : Nat) ∧ (0 : Int) ≤ i ∧ i < (↑p.es.length : Int)) then
           bif isOf LT.sl (nthD (List.drop (7 : Nat) (nthD p.es i.toNat).cells) (0 : Nat)) then
             bif
                 decide
                   (IntKind.i64.wrap
                       (IntKind.i64.wrap
                           (n + (↑(rowL (nthD (List.drop (6 : Nat) (nthD p.es i.toNat).cells) (0 : Nat))).length : Int)) +
                         (↑(rowL (nthD (List.drop (7 : Nat) (nthD p.es i.toNat).cells) (0 : Nat))).length : Int)) >
                     (20000 : Int)) then
               some
                 (Ex.ret,
                   Sx (7 : Nat)
                     [IV.ptr (nat_lit 0) (nat_lit 0), IV.bool true,
                       IV.int IntKind.i64
                         (IntKind.i64.wrap
                           (IntKind.i64.wrap
                               (n +
                                 (↑(rowL (nthD (List.drop (6 : Nat) (nthD p.es i.toNat).cells) (0 : Nat))).length : Int)) +
                             (↑(rowL (nthD (List.drop (7 : Nat) (nthD p.es i.toNat).cells) (0 : Nat))).length : Int))),
                       IV.int IntKind.i64 i]
                     [Blk.var false
                         p.cells])
             else
               some
                 (Ex.normal,
                   Sx (7 : Nat)
                     [IV.ptr (nat_lit 0) (nat_lit 0), IV.bool b,
                       IV.int IntKind.i64
                         (IntKind.i64.wrap
                           (IntKind.i64.wrap
                               (n +
                                 (↑(rowL (nthD (List.drop (6 : Nat) (nthD p.es i.toNat).cells) (0 : Nat))).length : Int)) +
                             (↑(rowL (nthD (List.drop (7 : Nat) (nthD p.es i.toNat).cells) (0 : Nat))).length : Int))),
                       IV.int IntKind.i64 (IntKind.i64.wrap (i + (1 : Int)))]
                     [Blk.var false
                         p.cells])
           else none
         else none
       else none
     else none
   else
     some
       (Ex.exit (nat_lit 0),
         Sx (7 : Nat) [IV.ptr (nat_lit 0) (nat_lit 0), IV.bool b, IV.int IntKind.i64 n, IV.int IntKind.i64 i]
           [Blk.var false
               p.cells])) := by kernel_rfl
theorem rt_in (p : PK) (es : List IV) (b cl : Bool) (nl : Option Bool) (z : Nat) (n len i : Int) (c : XV → Bool) (g : XV → Int) : Rd (tab [(20, xP .i64 c g)]) 0 12 122 (Sx 12 [.ptr 0 0, .bool b, .int .i64 n, .fsl nl cl z es, .int .i64 len, .int .i64 i] [.var false p.cells]) =
  (bif decide (i < len) then
     bif decide (z = (8 : Nat) ∧ (0 : Int) ≤ i ∧ i < (↑es.length : Int)) then
       bif
           testAll
             ([LT.i IntKind.i64] ++
               ([LT.b] ++
                 ([LT.b] ++
                   ([LT.i IntKind.i64] ++ ([LT.i IntKind.u32] ++ ([LT.i IntKind.u32] ++ ([LT.sl] ++ ([LT.sl] ++ []))))))))
             (0 : Nat) (nthD es i.toNat).cells then
         bif
             c
               (toX (nthD es i.toNat)) then
           some
             (Ex.normal,
               Sx (12 : Nat)
                 [IV.ptr (nat_lit 0) (nat_lit 0),
                   IV.bool
                     (bif
                         bif
                             bif
                                 bif
                                     bif
                                         bif b then decide (intOf (nthD (nthD es i.toNat).cells (0 : Nat)) ≥ (1 : Int))
                                         else false then
                                       decide (intOf (nthD (nthD es i.toNat).cells (0 : Nat)) ≤ (63 : Int))
                                     else false then
                                   decide (intOf (nthD (nthD es i.toNat).cells (3 : Nat)) ≥ (0 : Int))
                                 else false then
                               decide (intOf (nthD (nthD es i.toNat).cells (3 : Nat)) ≤ (65535 : Int))
                             else false then
                           decide ((↑(rowL (nthD (nthD es i.toNat).cells (6 : Nat))).length : Int) ≤ (2048 : Int))
                         else false then
                       decide ((↑(rowL (nthD (nthD es i.toNat).cells (7 : Nat))).length : Int) ≤ (2048 : Int))
                     else false),
                   IV.int IntKind.i64
                     (IntKind.i64.wrap
                       (n +
                         g
                           (toX (nthD es i.toNat)))),
                   IV.fsl nl cl z es, IV.int IntKind.i64 len, IV.int IntKind.i64 (IntKind.i64.wrap (i + (1 : Int)))]
                 [Blk.var false
                     p.cells])
         else none
       else none
     else none
   else
     some
       (Ex.exit (nat_lit 0),
         Sx (12 : Nat)
           [IV.ptr (nat_lit 0) (nat_lit 0), IV.bool b, IV.int IntKind.i64 n, IV.fsl nl cl z es, IV.int IntKind.i64 len,
             IV.int IntKind.i64 i]
           [Blk.var false
               p.cells])) := by kernel_rfl
theorem rr_in (p : PK) (e n i : Int) (c : XV → Bool) (g : XV → List IV) (c1 c2 : Bool → Int → Nat → List IV → Bool) (g4 : Int → List IV → List IV) : Rd (tab [(25, btwF), (23, xRowP c g), (24, macP c1 c2 g4)]) 0 13 122 (Sx 13 [.ptr 0 0, .int .i64 e, .int .i64 n, .int .i64 i] [.var false p.cells]) =
  (bif decide (i < (↑p.es.length : Int)) then
     bif decide (p.z1 = (8 : Nat) ∧ (0 : Int) ≤ i ∧ i < (↑p.es.length : Int)) then
       bif
           testAll
             ([LT.i IntKind.i64] ++
               ([LT.b] ++
                 ([LT.b] ++
                   ([LT.i IntKind.i64] ++ ([LT.i IntKind.u32] ++ ([LT.i IntKind.u32] ++ ([LT.sl] ++ ([LT.sl] ++ []))))))))
             (0 : Nat) (nthD p.es i.toNat).cells then
         bif
             (!(decide ((1 : Int) ≤ intOf (nthD (nthD p.es i.toNat).cells (0 : Nat))) &&
                   decide (intOf (nthD (nthD p.es i.toNat).cells (0 : Nat)) ≤ (63 : Int)))) ==
               false then
           bif
               bif
                   bif
                       bif false then true
                       else
                         !(decide ((0 : Int) ≤ intOf (nthD (nthD p.es i.toNat).cells (3 : Nat))) &&
                             decide (intOf (nthD (nthD p.es i.toNat).cells (3 : Nat)) ≤ (65535 : Int))) then
                     true
                   else decide ((↑(rowL (nthD (nthD p.es i.toNat).cells (6 : Nat))).length : Int) > (2048 : Int)) then
                 true
               else decide ((↑(rowL (nthD (nthD p.es i.toNat).cells (7 : Nat))).length : Int) > (2048 : Int)) then
             some
               (Ex.ret,
                 Sx (13 : Nat)
                   [IV.ptr (nat_lit 0) (nat_lit 0), IV.int IntKind.i64 (3 : Int), IV.int IntKind.i64 n,
                     IV.int IntKind.i64 i]
                   [Blk.var false
                       p.cells])
           else
             bif
                 c
                   (toX (nthD p.es i.toNat)) then
               some
                 (Ex.normal,
                   Sx (13 : Nat)
                     [IV.ptr (nat_lit 0) (nat_lit 0), IV.int IntKind.i64 e,
                       IV.int IntKind.i64
                         (IntKind.i64.wrap
                           (n +
                             (↑(g
                                     (toX (nthD p.es i.toNat))).length :
                               Int))),
                       IV.int IntKind.i64 (IntKind.i64.wrap (i + (1 : Int)))]
                     [Blk.var false
                         p.cells])
             else none
         else
           some
             (Ex.ret,
               Sx (13 : Nat)
                 [IV.ptr (nat_lit 0) (nat_lit 0), IV.int IntKind.i64 (3 : Int), IV.int IntKind.i64 n, IV.int IntKind.i64 i]
                 [Blk.var false
                     p.cells])
       else none
     else none
   else
     some
       (Ex.exit (nat_lit 0),
         Sx (13 : Nat) [IV.ptr (nat_lit 0) (nat_lit 0), IV.int IntKind.i64 e, IV.int IntKind.i64 n, IV.int IntKind.i64 i]
           [Blk.var false
               p.cells])) := by kernel_rfl
theorem sm_in (p q : PK) (b : Bool) (i : Int) (c : XV → XV → Bool) (g : XV → XV → Bool) : Rd (tab [(26, xxP c g)]) 0 14 122 (Sx 14 [.ptr 0 0, .ptr 1 0, .bool b, .int .i64 i] [.var false p.cells, .var false q.cells]) =
  (bif decide (i < (↑p.es.length : Int)) then
     bif decide (p.z1 = (8 : Nat) ∧ (0 : Int) ≤ i ∧ i < (↑p.es.length : Int)) then
       bif
           testAll
             ([LT.i IntKind.i64] ++
               ([LT.b] ++
                 ([LT.b] ++
                   ([LT.i IntKind.i64] ++ ([LT.i IntKind.u32] ++ ([LT.i IntKind.u32] ++ ([LT.sl] ++ ([LT.sl] ++ []))))))))
             (0 : Nat) (nthD p.es i.toNat).cells then
         bif decide (q.z1 = (8 : Nat) ∧ (0 : Int) ≤ i ∧ i < (↑q.es.length : Int)) then
           bif
               testAll
                 ([LT.i IntKind.i64] ++
                   ([LT.b] ++
                     ([LT.b] ++
                       ([LT.i IntKind.i64] ++
                         ([LT.i IntKind.u32] ++ ([LT.i IntKind.u32] ++ ([LT.sl] ++ ([LT.sl] ++ []))))))))
                 (0 : Nat) (nthD q.es i.toNat).cells then
             bif
                 c
                   (toX (nthD p.es i.toNat))
                   (toX (nthD q.es i.toNat)) then
               bif
                   !g
                       (toX (nthD p.es i.toNat))
                       (toX (nthD q.es i.toNat)) then
                 some
                   (Ex.ret,
                     Sx (14 : Nat)
                       [IV.ptr (nat_lit 0) (nat_lit 0), IV.ptr (nat_lit 1) (nat_lit 0), IV.bool false,
                         IV.int IntKind.i64 i]
                       [Blk.var false
                           p.cells,
                         Blk.var false
                           q.cells])
               else
                 some
                   (Ex.normal,
                     Sx (14 : Nat)
                       [IV.ptr (nat_lit 0) (nat_lit 0), IV.ptr (nat_lit 1) (nat_lit 0), IV.bool b,
                         IV.int IntKind.i64 (IntKind.i64.wrap (i + (1 : Int)))]
                       [Blk.var false
                           p.cells,
                         Blk.var false
                           q.cells])
             else none
           else none
         else none
       else none
     else none
   else
     some
       (Ex.exit (nat_lit 0),
         Sx (14 : Nat) [IV.ptr (nat_lit 0) (nat_lit 0), IV.ptr (nat_lit 1) (nat_lit 0), IV.bool b, IV.int IntKind.i64 i]
           [Blk.var false
               p.cells,
             Blk.var false
               q.cells])) := by kernel_rfl
theorem hv_all (p : PK) (d1 : PK → Int → Int → Bool) (g1 : PK → Int → Int) (d2 : PK → Int → Int → Bool) (g2 g3 : PK → Int → Int) : Cb (tab []) (ltab [(7, 122, LF 7 0 (hvL d1 g1 d2 g2 g3))]) 7 [p.iv] [] =
  (bif bif decide ((↑p.es.length : Int) > (20 : Int)) then true else decide ((↑p.su.length : Int) > (20000 : Int)) then
     some (IV.bool true, [])
   else
     bif
         d1
           p
           (↑p.su.length : Int) (0 : Int) then
       some (IV.bool false, [])
     else
       bif
           d2
             p
             (↑p.su.length : Int) (0 : Int) then
         some (IV.bool true, [])
       else none) := by kernel_rfl
theorem rt_all (p : PK) (d : Bool → Int → Nat → List IV → Int → Int → Bool) (gb : Bool → List IV → Bool) (gn : Int → List IV → Int) (c : XV → Bool) (g : XV → Int) : Cb (tab [(20, xP .i64 c g)]) (ltab [(12, 122, LF 12 0 (rtL d gb gn))]) 12 [p.iv] [] =
  (bif
       d
         (bif
             bif
                 bif
                     bif
                         bif
                             bif
                                 bif
                                     bif
                                         bif
                                             bif
                                                 bif decide (p.le ≥ (0 : Int)) then decide (p.le ≤ (3 : Int))
                                                 else false then
                                               p.ve == (4 : Int)
                                             else false then
                                           decide (p.mo ≥ (1 : Int))
                                         else false then
                                       decide (p.mo ≤ (5 : Int))
                                     else false then
                                   decide (p.st ≥ (0 : Int))
                                 else false then
                               decide (p.st ≤ (16 : Int))
                             else false then
                           decide (p.po ≥ (0 : Int))
                         else false then
                       decide (p.po ≤ (17 : Int))
                     else false then
                   decide (p.pr ≥ (-128 : Int))
                 else false then
               decide (p.pr ≤ (127 : Int))
             else false then
           decide ((↑p.es.length : Int) ≤ (8 : Int))
         else false)
         (48 : Int) p.z1 p.es (↑p.es.length : Int) (0 : Int) then
     bif p.ha then
       bif
           bif
               !bif
                     gb
                       (bif
                           bif
                               bif
                                   bif
                                       bif
                                           bif
                                               bif
                                                   bif
                                                       bif
                                                           bif
                                                               bif decide (p.le ≥ (0 : Int)) then decide (p.le ≤ (3 : Int))
                                                               else false then
                                                             p.ve == (4 : Int)
                                                           else false then
                                                         decide (p.mo ≥ (1 : Int))
                                                       else false then
                                                     decide (p.mo ≤ (5 : Int))
                                                   else false then
                                                 decide (p.st ≥ (0 : Int))
                                               else false then
                                             decide (p.st ≤ (16 : Int))
                                           else false then
                                         decide (p.po ≥ (0 : Int))
                                       else false then
                                     decide (p.po ≤ (17 : Int))
                                   else false then
                                 decide (p.pr ≥ (-128 : Int))
                               else false then
                             decide (p.pr ≤ (127 : Int))
                           else false then
                         decide ((↑p.es.length : Int) ≤ (8 : Int))
                       else false)
                       p.es then
                   bif (↑p.su.length : Int) == (0 : Int) then true else (↑p.su.length : Int) == (16 : Int)
                 else false then
             true
           else
             decide
               (IntKind.i64.wrap (gn (48 : Int) p.es + IntKind.i64.wrap ((4 : Int) + (↑p.su.length : Int))) >
                 (8192 : Int)) then
         some (IV.int IntKind.i64 (3 : Int), [])
       else some (IV.int IntKind.i64 (0 : Int), [])
     else
       bif
           bif
               !bif
                     bif
                         gb
                           (bif
                               bif
                                   bif
                                       bif
                                           bif
                                               bif
                                                   bif
                                                       bif
                                                           bif
                                                               bif
                                                                   bif decide (p.le ≥ (0 : Int)) then
                                                                     decide (p.le ≤ (3 : Int))
                                                                   else false then
                                                                 p.ve == (4 : Int)
                                                               else false then
                                                             decide (p.mo ≥ (1 : Int))
                                                           else false then
                                                         decide (p.mo ≤ (5 : Int))
                                                       else false then
                                                     decide (p.st ≥ (0 : Int))
                                                   else false then
                                                 decide (p.st ≤ (16 : Int))
                                               else false then
                                             decide (p.po ≥ (0 : Int))
                                           else false then
                                         decide (p.po ≤ (17 : Int))
                                       else false then
                                     decide (p.pr ≥ (-128 : Int))
                                   else false then
                                 decide (p.pr ≤ (127 : Int))
                               else false then
                             decide ((↑p.es.length : Int) ≤ (8 : Int))
                           else false)
                           p.es then
                       p.ky == (0 : Int)
                     else false then
                   (↑p.su.length : Int) == (0 : Int)
                 else false then
             true
           else decide (gn (48 : Int) p.es > (8192 : Int)) then
         some (IV.int IntKind.i64 (3 : Int), [])
       else some (IV.int IntKind.i64 (0 : Int), [])
   else none) := by kernel_rfl
theorem rr_all (p : PK) (d1 : PK → Int → Int → Bool) (g1 : PK → Int → Int) (d2 : PK → Int → Int → Bool) (g2 g3 : PK → Int → Int) (c : XV → Bool) (g : XV → List IV) (c1 c2 : Bool → Int → Nat → List IV → Bool) (g4 : Int → List IV → List IV) : Cb (tab [(25, btwF), (23, xRowP c g), (24, macP c1 c2 g4)]) (ltab [(13, 122, LF 13 0 (rrL d1 g1 d2 g2 g3))]) 13 [p.iv] [] =
  (bif (bif !(decide ((0 : Int) ≤ p.le) && decide (p.le ≤ (3 : Int))) then true else p.ve != (4 : Int)) == false then
     bif (bif false then true else !(decide ((1 : Int) ≤ p.mo) && decide (p.mo ≤ (5 : Int)))) == false then
       bif (bif false then true else !(decide ((0 : Int) ≤ p.st) && decide (p.st ≤ (16 : Int)))) == false then
         bif (bif false then true else !(decide ((0 : Int) ≤ p.po) && decide (p.po ≤ (17 : Int)))) == false then
           bif
               bif bif false then true else !(decide ((-128 : Int) ≤ p.pr) && decide (p.pr ≤ (127 : Int))) then true
               else decide ((↑p.es.length : Int) > (8 : Int)) then
             some (IV.int IntKind.i64 (3 : Int), [])
           else
             bif c1 p.ha p.ky p.z2 p.su then
               bif
                   d1
                     p
                     (IntKind.i64.wrap ((48 : Int) + (↑(0 : Nat) : Int))) (0 : Int) then
                 bif
                     bif
                         bif
                             bif bif p.ha then (↑p.su.length : Int) != (0 : Int) else false then
                               (↑p.su.length : Int) != (16 : Int)
                             else false then
                           true
                         else
                           bif !p.ha then bif decide ((↑p.su.length : Int) > (0 : Int)) then true else p.ky != (0 : Int)
                           else false then
                       true
                     else
                       decide
                         (g1
                             p
                             (IntKind.i64.wrap ((48 : Int) + (↑(0 : Nat) : Int))) >
                           (8192 : Int)) then
                   some (IV.int IntKind.i64 (3 : Int), [])
                 else some (IV.int IntKind.i64 (0 : Int), [])
               else
                 bif
                     d2
                       p
                       (IntKind.i64.wrap ((48 : Int) + (↑(0 : Nat) : Int))) (0 : Int) then
                   some (IV.int IntKind.i64 (3 : Int), [])
                 else none
             else
               bif c2 p.ha p.ky p.z2 p.su then
                 bif
                     d1
                       p
                       (IntKind.i64.wrap ((48 : Int) + (↑(g4 p.ky p.su).length : Int))) (0 : Int) then
                   bif
                       bif
                           bif
                               bif bif p.ha then (↑p.su.length : Int) != (0 : Int) else false then
                                 (↑p.su.length : Int) != (16 : Int)
                               else false then
                             true
                           else
                             bif !p.ha then bif decide ((↑p.su.length : Int) > (0 : Int)) then true else p.ky != (0 : Int)
                             else false then
                         true
                       else
                         decide
                           (g1
                               p
                               (IntKind.i64.wrap ((48 : Int) + (↑(g4 p.ky p.su).length : Int))) >
                             (8192 : Int)) then
                     some (IV.int IntKind.i64 (3 : Int), [])
                   else some (IV.int IntKind.i64 (0 : Int), [])
                 else
                   bif
                       d2
                         p
                         (IntKind.i64.wrap ((48 : Int) + (↑(g4 p.ky p.su).length : Int))) (0 : Int) then
                     some (IV.int IntKind.i64 (3 : Int), [])
                   else none
               else none
         else some (IV.int IntKind.i64 (3 : Int), [])
       else some (IV.int IntKind.i64 (3 : Int), [])
     else some (IV.int IntKind.i64 (3 : Int), [])
   else some (IV.int IntKind.i64 (3 : Int), [])) := by kernel_rfl
theorem sm_all (p q : PK) (d1 d2 : PK → PK → Int → Bool) (g3 : PK → PK → Int) (c : XV → XV → Bool) (g : XV → XV → Bool) : Cb (tab [(26, xxP c g)]) (ltab [(14, 122, LF 14 0 (smL d1 d2 g3))]) 14 [p.iv, q.iv] [] =
  (bif
       bif
           bif
               bif bif bif p.le != q.le then true else p.ve != q.ve then true else p.mo != q.mo then true
               else p.st != q.st then
             true
           else p.po != q.po then
         true
       else p.pr != q.pr then
     some (IV.bool false, [])
   else
     bif
         bif
             bif
                 bif
                     bif
                         bif bif bif p.de != q.de then true else p.di != q.di then true else p.ri != q.ri then true
                         else p.rf != q.rf then
                       true
                     else p.og != q.og then
                   true
                 else p.rc != q.rc then
               true
             else p.xm != q.xm then
           true
         else (↑p.es.length : Int) != (↑q.es.length : Int) then
       some (IV.bool false, [])
     else
       bif
           d1
             p
             q
             (0 : Int) then
         bif decide (p.z2 = (1 : Nat) ∨ p.su.length = (0 : Nat)) && isBytes p.su then
           bif decide (q.z2 = (1 : Nat) ∨ q.su.length = (0 : Nat)) && isBytes q.su then
             some
               (IV.bool (bif bif p.ha == q.ha then p.ky == q.ky else false then toBytes p.su == toBytes q.su else false),
                 [])
           else none
         else none
       else
         bif
             d2
               p
               q
               (0 : Int) then
           some (IV.bool false, [])
         else none) := by kernel_rfl
end Go.Proofs.Ytphddjolipaejaa
