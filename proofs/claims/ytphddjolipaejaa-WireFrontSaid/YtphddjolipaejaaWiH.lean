/- Packets are copied and written: what the given program does. It bears no condition. -/
import Derived.Test.YtphddjolipaejaaWiG
-- FOLDS WiC.src.lean
-- FOLD $.cellsO <= [IV.int IntKind.i64 $.le, IV.int IntKind.i64 $.ve, IV.int IntKind.i64 $.mo, IV.int IntKind.i64 $.st, IV.int IntKind.i64 $.po, IV.int IntKind.i64 $.pr, IV.int IntKind.u32 $.de, IV.int IntKind.u32 $.di, IV.int IntKind.u32 $.ri, IV.int IntKind.u64 $.rf, IV.int IntKind.u64 $.og, IV.int IntKind.u64 $.rc, IV.int IntKind.u64 $.xm, IV.osl (nat_lit 3) (nat_lit 0), IV.bool $.ha, IV.int IntKind.u32 $.ky, IV.fsl $.n2 $.c2 $.z2 $.su]
-- BYTES bytsH
namespace Go.Proofs.Ytphddjolipaejaa
open Go Go.Im
set_option linter.unusedVariables false
set_option linter.unusedSimpArgs false

def PK.cellsO (p : PK) : List IV := [.int .i64 p.le, .int .i64 p.ve, .int .i64 p.mo, .int .i64 p.st, .int .i64 p.po, .int .i64 p.pr, .int .u32 p.de, .int .u32 p.di, .int .u32 p.ri, .int .u64 p.rf, .int .u64 p.og, .int .u64 p.rc, .int .u64 p.xm,
  .osl 3 0, .bool p.ha, .int .u32 p.ky, .fsl p.n2 p.c2 p.z2 p.su]
/-- A packet out of its cells. -/
def pkOf : List IV → Option PK
  | [.int .i64 le, .int .i64 ve, .int .i64 mo, .int .i64 st, .int .i64 po, .int .i64 pr, .int .u32 de, .int .u32 di, .int .u32 ri, .int .u64 rf, .int .u64 og, .int .u64 rc, .int .u64 xm, .fsl n1 c1 z1 es, .bool ha, .int .u32 ky, .fsl n2 c2 z2 su] => some ⟨le, ve, mo, st, po, pr, de, di, ri, rf, og, rc, xm, n1, c1, z1, es, ha, ky, n2, c2, z2, su⟩
  | _ => none
def pkOfO : List IV → Option PK
  | [.int .i64 le, .int .i64 ve, .int .i64 mo, .int .i64 st, .int .i64 po, .int .i64 pr, .int .u32 de, .int .u32 di, .int .u32 ri, .int .u64 rf, .int .u64 og, .int .u64 rc, .int .u64 xm, .osl 3 0, .bool ha, .int .u32 ky, .fsl n2 c2 z2 su] => some ⟨le, ve, mo, st, po, pr, de, di, ri, rf, og, rc, xm, none, false, 0, [], ha, ky, n2, c2, z2, su⟩
  | _ => none
def cpL (d : PK → List IV → Int → Bool) (g : PK → List IV → List IV) : LiveF := fun vs bx => match vs, bx with
  | [.ptr 0 0, .ptr 1 0, .ptr 2 0, .int .i64 i], [.var false a, .var false b, .var false c, .row 0 false 8 l] => match pkOf a, pkOf b, pkOfO c with
    | some p, some _, some _ => [(d p l i, .exit 0, [.ptr 0 0, .ptr 1 0, .ptr 2 0, .int .i64 p.es.length], [.var false a, .var false b, .var false c, .row 0 false 8 (g p l)])]
    | _, _, _ => []
  | _, _ => []
def wL (d : Nat → List IV → Int → Int → List IV → Bool) (g : List IV → List IV → List IV) : LiveF := fun vs bx => match vs, bx with
  | [.ptr 0 0, .osl 1 0, .fsl nl cl z es, .int .i64 len, .int .i64 i], [.var false q, .row 0 false 1 l] => match pkOf q with
    | some _ => [(d z es len i l, .exit 0, [.ptr 0 0, .osl 1 0, .fsl nl cl z es, .int .i64 len, .int .i64 len], [.var false q, .row 0 false 1 (g es l)])]
    | _ => []
  | _, _ => []
def rwL (d : PK → Int → List IV → Bool) (g : PK → List IV → List IV) : LiveF := fun vs bx => match vs, bx with
  | [.ptr 0 0, .int .i64 e, .osl 1 0, .int .i64 i], [.var false [.int .i64 le, .int .i64 ve, .int .i64 mo, .int .i64 st, .int .i64 po, .int .i64 pr, .int .u32 de, .int .u32 di, .int .u32 ri, .int .u64 rf, .int .u64 og, .int .u64 rc, .int .u64 xm, .fsl n1 c1 z1 es, .bool ha, .int .u32 ky, .fsl n2 c2 z2 su], .row 0 false 1 l] =>
    [(d ⟨le, ve, mo, st, po, pr, de, di, ri, rf, og, rc, xm, n1, c1, z1, es, ha, ky, n2, c2, z2, su⟩ i l, .exit 0, [.ptr 0 0, .int .i64 e, .osl 1 0, .int .i64 es.length], [.var false [.int .i64 le, .int .i64 ve, .int .i64 mo, .int .i64 st, .int .i64 po, .int .i64 pr, .int .u32 de, .int .u32 di, .int .u32 ri, .int .u64 rf, .int .u64 og, .int .u64 rc, .int .u64 xm, .fsl n1 c1 z1 es, .bool ha, .int .u32 ky, .fsl n2 c2 z2 su], .row 0 false 1 (g ⟨le, ve, mo, st, po, pr, de, di, ri, rf, og, rc, xm, n1, c1, z1, es, ha, ky, n2, c2, z2, su⟩ l)])]
  | _, _ => []
def ppP (c g : PK → PK → Bool) : SpecF := fun xs T => match xs, T with
  | [.agg [.int .i64 le, .int .i64 ve, .int .i64 mo, .int .i64 st, .int .i64 po, .int .i64 pr, .int .u32 de, .int .u32 di, .int .u32 ri, .int .u64 rf, .int .u64 og, .int .u64 rc, .int .u64 xm, .fsl n1 c1 z1 es, .bool ha, .int .u32 ky, .fsl n2 c2 z2 su], .agg [.int .i64 le', .int .i64 ve', .int .i64 mo', .int .i64 st', .int .i64 po', .int .i64 pr', .int .u32 de', .int .u32 di', .int .u32 ri', .int .u64 rf', .int .u64 og', .int .u64 rc', .int .u64 xm', .fsl n1' c1' z1' es', .bool ha', .int .u32 ky', .fsl n2' c2' z2' su']], [] => [(c ⟨le, ve, mo, st, po, pr, de, di, ri, rf, og, rc, xm, n1, c1, z1, es, ha, ky, n2, c2, z2, su⟩ ⟨le', ve', mo', st', po', pr', de', di', ri', rf', og', rc', xm', n1', c1', z1', es', ha', ky', n2', c2', z2', su'⟩, .bool (g ⟨le, ve, mo, st, po, pr, de, di, ri, rf, og, rc, xm, n1, c1, z1, es, ha, ky, n2, c2, z2, su⟩ ⟨le', ve', mo', st', po', pr', de', di', ri', rf', og', rc', xm', n1', c1', z1', es', ha', ky', n2', c2', z2', su'⟩), [])]
  | _, _ => []
/-- A packet in new memory. -/
def cpP (c : PK → Bool) (ge : PK → List IV) (gs : PK → List IV) : SpecF := fun xs T => match xs, T with
  | [.agg [.int .i64 le, .int .i64 ve, .int .i64 mo, .int .i64 st, .int .i64 po, .int .i64 pr, .int .u32 de, .int .u32 di, .int .u32 ri, .int .u64 rf, .int .u64 og, .int .u64 rc, .int .u64 xm, .fsl n1 c1 z1 es, .bool ha, .int .u32 ky, .fsl n2 c2 z2 su]], [] => [(c ⟨le, ve, mo, st, po, pr, de, di, ri, rf, og, rc, xm, n1, c1, z1, es, ha, ky, n2, c2, z2, su⟩, .agg [.int .i64 le, .int .i64 ve, .int .i64 mo, .int .i64 st, .int .i64 po, .int .i64 pr, .int .u32 de, .int .u32 di, .int .u32 ri, .int .u64 rf, .int .u64 og, .int .u64 rc, .int .u64 xm, .osl 0 0, .bool ha, .int .u32 ky, .osl 1 0], [.row 0 false 8 (ge ⟨le, ve, mo, st, po, pr, de, di, ri, rf, og, rc, xm, n1, c1, z1, es, ha, ky, n2, c2, z2, su⟩), .row 0 false 1 (gs ⟨le, ve, mo, st, po, pr, de, di, ri, rf, og, rc, xm, n1, c1, z1, es, ha, ky, n2, c2, z2, su⟩)])]
  | _, _ => []
/-- A packet's bytes, or an error. -/
def wrP (d1 d2 : PK → Bool) (g : PK → List IV) : SpecF := fun xs T => match xs, T with
  | [.agg [.int .i64 le, .int .i64 ve, .int .i64 mo, .int .i64 st, .int .i64 po, .int .i64 pr, .int .u32 de, .int .u32 di, .int .u32 ri, .int .u64 rf, .int .u64 og, .int .u64 rc, .int .u64 xm, .fsl n1 c1 z1 es, .bool ha, .int .u32 ky, .fsl n2 c2 z2 su]], [] => [(d1 ⟨le, ve, mo, st, po, pr, de, di, ri, rf, og, rc, xm, n1, c1, z1, es, ha, ky, n2, c2, z2, su⟩, .tup [.osl 0 0, .int .i64 0], [.row 0 false 1 (g ⟨le, ve, mo, st, po, pr, de, di, ri, rf, og, rc, xm, n1, c1, z1, es, ha, ky, n2, c2, z2, su⟩)]), (d2 ⟨le, ve, mo, st, po, pr, de, di, ri, rf, og, rc, xm, n1, c1, z1, es, ha, ky, n2, c2, z2, su⟩, .tup [.fsl (some true) true 0 [], .int .i64 3], [])]
  | _, _ => []
theorem cp_in (p q r : PK) (i : Int) (l : List IV) : Rd (tab []) 0 9 122 (Sx 9 [.ptr 0 0, .ptr 1 0, .ptr 2 0, .int .i64 i] [.var false p.cells, .var false q.cells, .var false r.cellsO, .row 0 false 8 l]) =
  (bif decide (i < (↑p.es.length : Int)) then
     bif decide (p.z1 = (8 : Nat) ∧ (0 : Int) ≤ i ∧ i < (↑p.es.length : Int)) then
       bif
           testAll
             ([LT.i IntKind.i64] ++
               ([LT.b] ++
                 ([LT.b] ++
                   ([LT.i IntKind.i64] ++ ([LT.i IntKind.u32] ++ ([LT.i IntKind.u32] ++ ([LT.sl] ++ ([LT.sl] ++ []))))))))
             (0 : Nat) (nthD p.es i.toNat).cells then
         bif
             decide
               (szOf (nthD (nthD p.es i.toNat).cells (6 : Nat)) = (1 : Nat) ∨
                 (rowL (nthD (nthD p.es i.toNat).cells (6 : Nat))).length = (0 : Nat)) then
           bif
               decide
                 (((0 : Nat) = (1 : Nat) ∨ (0 : Nat) = (0 : Nat)) ∧
                   ((0 : Nat) = (0 : Nat) ∨ (0 : Nat) < (rowL (nthD (nthD p.es i.toNat).cells (6 : Nat))).length) ∧
                     ((0 : Nat) + (rowL (nthD (nthD p.es i.toNat).cells (6 : Nat))).length) * (1 : Nat) ≤ roomB ∧
                       (0 : Nat) + (rowL (nthD (nthD p.es i.toNat).cells (6 : Nat))).length ≤ maxLen) then
             bif
                 decide
                   (szOf (nthD (nthD p.es i.toNat).cells (7 : Nat)) = (1 : Nat) ∨
                     (rowL (nthD (nthD p.es i.toNat).cells (7 : Nat))).length = (0 : Nat)) then
               bif
                   decide
                     (((0 : Nat) = (1 : Nat) ∨ (0 : Nat) = (0 : Nat)) ∧
                       ((0 : Nat) = (0 : Nat) ∨ (0 : Nat) < (rowL (nthD (nthD p.es i.toNat).cells (7 : Nat))).length) ∧
                         ((0 : Nat) + (rowL (nthD (nthD p.es i.toNat).cells (7 : Nat))).length) * (1 : Nat) ≤ roomB ∧
                           (0 : Nat) + (rowL (nthD (nthD p.es i.toNat).cells (7 : Nat))).length ≤ maxLen) then
                 bif
                     decide
                       ((l.length +
                               [IV.agg
                                     [IV.int IntKind.i64 (intOf (nthD (nthD p.es i.toNat).cells (0 : Nat))),
                                       IV.bool (boolOf (nthD (nthD p.es i.toNat).cells (1 : Nat))),
                                       IV.bool (boolOf (nthD (nthD p.es i.toNat).cells (2 : Nat))),
                                       IV.int IntKind.i64 (intOf (nthD (nthD p.es i.toNat).cells (3 : Nat))),
                                       IV.int IntKind.u32 (intOf (nthD (nthD p.es i.toNat).cells (4 : Nat))),
                                       IV.int IntKind.u32 (intOf (nthD (nthD p.es i.toNat).cells (5 : Nat))),
                                       IV.fsl none false (1 : Nat) ([] ++ rowL (nthD (nthD p.es i.toNat).cells (6 : Nat))),
                                       IV.fsl none false (1 : Nat)
                                         ([] ++ rowL (nthD (nthD p.es i.toNat).cells (7 : Nat)))]].length) *
                             (80 : Nat) ≤
                           roomB ∧
                         l.length +
                             [IV.agg
                                   [IV.int IntKind.i64 (intOf (nthD (nthD p.es i.toNat).cells (0 : Nat))),
                                     IV.bool (boolOf (nthD (nthD p.es i.toNat).cells (1 : Nat))),
                                     IV.bool (boolOf (nthD (nthD p.es i.toNat).cells (2 : Nat))),
                                     IV.int IntKind.i64 (intOf (nthD (nthD p.es i.toNat).cells (3 : Nat))),
                                     IV.int IntKind.u32 (intOf (nthD (nthD p.es i.toNat).cells (4 : Nat))),
                                     IV.int IntKind.u32 (intOf (nthD (nthD p.es i.toNat).cells (5 : Nat))),
                                     IV.fsl none false (1 : Nat) ([] ++ rowL (nthD (nthD p.es i.toNat).cells (6 : Nat))),
                                     IV.fsl none false (1 : Nat)
                                       ([] ++ rowL (nthD (nthD p.es i.toNat).cells (7 : Nat)))]].length ≤
                           maxLen) then
                   some
                     (Ex.normal,
                       Sx (9 : Nat)
                         [IV.ptr (nat_lit 0) (nat_lit 0), IV.ptr (nat_lit 1) (nat_lit 0), IV.ptr (nat_lit 2) (nat_lit 0),
                           IV.int IntKind.i64 (IntKind.i64.wrap (i + (1 : Int)))]
                         [Blk.var false
                             p.cells,
                           Blk.var false
                             q.cells,
                           Blk.var false
                             r.cellsO,
                           Blk.row (nat_lit 0) false (nat_lit 8)
                             (l ++
                               [IV.agg
                                   [IV.int IntKind.i64 (intOf (nthD (nthD p.es i.toNat).cells (0 : Nat))),
                                     IV.bool (boolOf (nthD (nthD p.es i.toNat).cells (1 : Nat))),
                                     IV.bool (boolOf (nthD (nthD p.es i.toNat).cells (2 : Nat))),
                                     IV.int IntKind.i64 (intOf (nthD (nthD p.es i.toNat).cells (3 : Nat))),
                                     IV.int IntKind.u32 (intOf (nthD (nthD p.es i.toNat).cells (4 : Nat))),
                                     IV.int IntKind.u32 (intOf (nthD (nthD p.es i.toNat).cells (5 : Nat))),
                                     IV.fsl none false (1 : Nat) ([] ++ rowL (nthD (nthD p.es i.toNat).cells (6 : Nat))),
                                     IV.fsl none false (1 : Nat)
                                       ([] ++ rowL (nthD (nthD p.es i.toNat).cells (7 : Nat)))]])])
                 else none
               else none
             else none
           else none
         else none
       else none
     else none
   else
     some
       (Ex.exit (nat_lit 0),
         Sx (9 : Nat)
           [IV.ptr (nat_lit 0) (nat_lit 0), IV.ptr (nat_lit 1) (nat_lit 0), IV.ptr (nat_lit 2) (nat_lit 0),
             IV.int IntKind.i64 i]
           [Blk.var false
               p.cells,
             Blk.var false
               q.cells,
             Blk.var false
               r.cellsO,
             Blk.row (nat_lit 0) false (nat_lit 8) l])) := by kernel_rfl
theorem cp_all (p : PK) (d : PK → List IV → Int → Bool) (g : PK → List IV → List IV) : Cb (tab []) (ltab [(9, 122, LF 9 0 (cpL d g))]) 9 [p.iv] [] =
  (bif
       d
         p
         [] (0 : Int) then
     bif decide (p.z2 = (1 : Nat) ∨ p.su.length = (0 : Nat)) then
       bif
           decide
             (((0 : Nat) = (1 : Nat) ∨ (0 : Nat) = (0 : Nat)) ∧
               ((0 : Nat) = (0 : Nat) ∨ (0 : Nat) < p.su.length) ∧
                 ((0 : Nat) + p.su.length) * (1 : Nat) ≤ roomB ∧ (0 : Nat) + p.su.length ≤ maxLen) then
         some
           (IV.agg
               [IV.int IntKind.i64 p.le, IV.int IntKind.i64 p.ve, IV.int IntKind.i64 p.mo, IV.int IntKind.i64 p.st,
                 IV.int IntKind.i64 p.po, IV.int IntKind.i64 p.pr, IV.int IntKind.u32 p.de, IV.int IntKind.u32 p.di,
                 IV.int IntKind.u32 p.ri, IV.int IntKind.u64 p.rf, IV.int IntKind.u64 p.og, IV.int IntKind.u64 p.rc,
                 IV.int IntKind.u64 p.xm, IV.osl (nat_lit 0) (nat_lit 0), IV.bool p.ha, IV.int IntKind.u32 p.ky,
                 IV.osl (nat_lit 1) (nat_lit 0)],
             [Blk.row (nat_lit 0) false (nat_lit 8)
                 (g
                   p
                   []),
               Blk.row (nat_lit 0) false (nat_lit 1) ([] ++ p.su)])
       else none
     else none
   else none) := by kernel_rfl
theorem w_in (p : PK) (n len i : Int) (nl : Option Bool) (cl : Bool) (z : Nat) (es l : List IV) (rC : PK → Bool) (rG : PK → Int) (sC : XV → Bool) (sG : XV → Int) (pC : Int → List IV → List IV → Bool) (pG : Int → List IV → List IV → List IV) (dC : Nat → List IV → List IV → Bool) (dG : List IV → List IV → List IV) : Rd (tab [(12, pkP rC fun p => .int .i64 (rG p)), (18, putP pC pG), (19, bitF), (20, xP .i64 sC sG), (21, dataP dC dG)]) 0 10 506 (Sx 10 [.ptr 0 0, .osl 1 0, .fsl nl cl z es, .int .i64 len, .int .i64 i] [.var false p.cells, .row 0 false 1 l]) =
  (bif decide (i < len) then
     bif decide (z = (8 : Nat) ∧ (0 : Int) ≤ i ∧ i < (↑es.length : Int)) then
       bif
           testAll
             ([LT.i IntKind.i64] ++
               ([LT.b] ++
                 ([LT.b] ++
                   ([LT.i IntKind.i64] ++ ([LT.i IntKind.u32] ++ ([LT.i IntKind.u32] ++ ([LT.sl] ++ ([LT.sl] ++ []))))))))
             (0 : Nat) (nthD es i.toNat).cells then
         bif
             decide
               ((l.length +
                       [IV.int IntKind.u8
                             (ibits BinOp.or IntKind.u8
                               (ibits BinOp.or IntKind.u8
                                 (bif boolOf (nthD (nthD es i.toNat).cells (1 : Nat)) then (128 : Int) else (0 : Int))
                                 (bif boolOf (nthD (nthD es i.toNat).cells (2 : Nat)) then (64 : Int) else (0 : Int)))
                               (IntKind.u8.wrap (intOf (nthD (nthD es i.toNat).cells (0 : Nat))))),
                           IV.int IntKind.u8 (0 : Int)].length) *
                     (1 : Nat) ≤
                   roomB ∧
                 l.length +
                     [IV.int IntKind.u8
                           (ibits BinOp.or IntKind.u8
                             (ibits BinOp.or IntKind.u8
                               (bif boolOf (nthD (nthD es i.toNat).cells (1 : Nat)) then (128 : Int) else (0 : Int))
                               (bif boolOf (nthD (nthD es i.toNat).cells (2 : Nat)) then (64 : Int) else (0 : Int)))
                             (IntKind.u8.wrap (intOf (nthD (nthD es i.toNat).cells (0 : Nat))))),
                         IV.int IntKind.u8 (0 : Int)].length ≤
                   maxLen) then
           bif
               sC
                 (toX (nthD es i.toNat)) then
             bif
                 pC (2 : Int)
                   [IV.int IntKind.u64
                       (IntKind.u64.wrap
                         (sG
                           (toX (nthD es i.toNat)))),
                     IV.int IntKind.u64 (IntKind.u64.wrap (intOf (nthD (nthD es i.toNat).cells (3 : Nat)))),
                     IV.int IntKind.u64 (0 : Int)]
                   (l ++
                     [IV.int IntKind.u8
                         (ibits BinOp.or IntKind.u8
                           (ibits BinOp.or IntKind.u8
                             (bif boolOf (nthD (nthD es i.toNat).cells (1 : Nat)) then (128 : Int) else (0 : Int))
                             (bif boolOf (nthD (nthD es i.toNat).cells (2 : Nat)) then (64 : Int) else (0 : Int)))
                           (IntKind.u8.wrap (intOf (nthD (nthD es i.toNat).cells (0 : Nat))))),
                       IV.int IntKind.u8 (0 : Int)]) then
               bif
                   pC (4 : Int)
                     [IV.int IntKind.u64 (IntKind.u64.wrap (intOf (nthD (nthD es i.toNat).cells (4 : Nat)))),
                       IV.int IntKind.u64 (IntKind.u64.wrap (intOf (nthD (nthD es i.toNat).cells (5 : Nat))))]
                     (pG (2 : Int)
                       [IV.int IntKind.u64
                           (IntKind.u64.wrap
                             (sG
                               (toX (nthD es i.toNat)))),
                         IV.int IntKind.u64 (IntKind.u64.wrap (intOf (nthD (nthD es i.toNat).cells (3 : Nat)))),
                         IV.int IntKind.u64 (0 : Int)]
                       (l ++
                         [IV.int IntKind.u8
                             (ibits BinOp.or IntKind.u8
                               (ibits BinOp.or IntKind.u8
                                 (bif boolOf (nthD (nthD es i.toNat).cells (1 : Nat)) then (128 : Int) else (0 : Int))
                                 (bif boolOf (nthD (nthD es i.toNat).cells (2 : Nat)) then (64 : Int) else (0 : Int)))
                               (IntKind.u8.wrap (intOf (nthD (nthD es i.toNat).cells (0 : Nat))))),
                           IV.int IntKind.u8 (0 : Int)])) then
                 bif
                     dC (szOf (nthD (nthD es i.toNat).cells (6 : Nat))) (rowL (nthD (nthD es i.toNat).cells (6 : Nat)))
                       (pG (4 : Int)
                         [IV.int IntKind.u64 (IntKind.u64.wrap (intOf (nthD (nthD es i.toNat).cells (4 : Nat)))),
                           IV.int IntKind.u64 (IntKind.u64.wrap (intOf (nthD (nthD es i.toNat).cells (5 : Nat))))]
                         (pG (2 : Int)
                           [IV.int IntKind.u64
                               (IntKind.u64.wrap
                                 (sG
                                   (toX (nthD es i.toNat)))),
                             IV.int IntKind.u64 (IntKind.u64.wrap (intOf (nthD (nthD es i.toNat).cells (3 : Nat)))),
                             IV.int IntKind.u64 (0 : Int)]
                           (l ++
                             [IV.int IntKind.u8
                                 (ibits BinOp.or IntKind.u8
                                   (ibits BinOp.or IntKind.u8
                                     (bif boolOf (nthD (nthD es i.toNat).cells (1 : Nat)) then (128 : Int) else (0 : Int))
                                     (bif boolOf (nthD (nthD es i.toNat).cells (2 : Nat)) then (64 : Int) else (0 : Int)))
                                   (IntKind.u8.wrap (intOf (nthD (nthD es i.toNat).cells (0 : Nat))))),
                               IV.int IntKind.u8 (0 : Int)]))) then
                   bif
                       dC (szOf (nthD (nthD es i.toNat).cells (7 : Nat))) (rowL (nthD (nthD es i.toNat).cells (7 : Nat)))
                         (dG (rowL (nthD (nthD es i.toNat).cells (6 : Nat)))
                           (pG (4 : Int)
                             [IV.int IntKind.u64 (IntKind.u64.wrap (intOf (nthD (nthD es i.toNat).cells (4 : Nat)))),
                               IV.int IntKind.u64 (IntKind.u64.wrap (intOf (nthD (nthD es i.toNat).cells (5 : Nat))))]
                             (pG (2 : Int)
                               [IV.int IntKind.u64
                                   (IntKind.u64.wrap
                                     (sG
                                       (toX (nthD es i.toNat)))),
                                 IV.int IntKind.u64 (IntKind.u64.wrap (intOf (nthD (nthD es i.toNat).cells (3 : Nat)))),
                                 IV.int IntKind.u64 (0 : Int)]
                               (l ++
                                 [IV.int IntKind.u8
                                     (ibits BinOp.or IntKind.u8
                                       (ibits BinOp.or IntKind.u8
                                         (bif boolOf (nthD (nthD es i.toNat).cells (1 : Nat)) then (128 : Int)
                                         else (0 : Int))
                                         (bif boolOf (nthD (nthD es i.toNat).cells (2 : Nat)) then (64 : Int)
                                         else (0 : Int)))
                                       (IntKind.u8.wrap (intOf (nthD (nthD es i.toNat).cells (0 : Nat))))),
                                   IV.int IntKind.u8 (0 : Int)])))) then
                     some
                       (Ex.normal,
                         Sx (10 : Nat)
                           [IV.ptr (nat_lit 0) (nat_lit 0), IV.osl (nat_lit 1) (nat_lit 0), IV.fsl nl cl z es,
                             IV.int IntKind.i64 len, IV.int IntKind.i64 (IntKind.i64.wrap (i + (1 : Int)))]
                           [Blk.var false
                               p.cells,
                             Blk.row (nat_lit 0) false (nat_lit 1)
                               (dG (rowL (nthD (nthD es i.toNat).cells (7 : Nat)))
                                 (dG (rowL (nthD (nthD es i.toNat).cells (6 : Nat)))
                                   (pG (4 : Int)
                                     [IV.int IntKind.u64
                                         (IntKind.u64.wrap (intOf (nthD (nthD es i.toNat).cells (4 : Nat)))),
                                       IV.int IntKind.u64
                                         (IntKind.u64.wrap (intOf (nthD (nthD es i.toNat).cells (5 : Nat))))]
                                     (pG (2 : Int)
                                       [IV.int IntKind.u64
                                           (IntKind.u64.wrap
                                             (sG
                                               (toX (nthD es i.toNat)))),
                                         IV.int IntKind.u64
                                           (IntKind.u64.wrap (intOf (nthD (nthD es i.toNat).cells (3 : Nat)))),
                                         IV.int IntKind.u64 (0 : Int)]
                                       (l ++
                                         [IV.int IntKind.u8
                                             (ibits BinOp.or IntKind.u8
                                               (ibits BinOp.or IntKind.u8
                                                 (bif boolOf (nthD (nthD es i.toNat).cells (1 : Nat)) then (128 : Int)
                                                 else (0 : Int))
                                                 (bif boolOf (nthD (nthD es i.toNat).cells (2 : Nat)) then (64 : Int)
                                                 else (0 : Int)))
                                               (IntKind.u8.wrap (intOf (nthD (nthD es i.toNat).cells (0 : Nat))))),
                                           IV.int IntKind.u8 (0 : Int)])))))])
                   else none
                 else none
               else none
             else none
           else none
         else none
       else none
     else none
   else
     some
       (Ex.exit (nat_lit 0),
         Sx (10 : Nat)
           [IV.ptr (nat_lit 0) (nat_lit 0), IV.osl (nat_lit 1) (nat_lit 0), IV.fsl nl cl z es, IV.int IntKind.i64 len,
             IV.int IntKind.i64 i]
           [Blk.var false
               p.cells,
             Blk.row (nat_lit 0) false (nat_lit 1) l])) := by kernel_rfl
theorem w_all (p : PK) (d : Nat → List IV → Int → Int → List IV → Bool) (g : List IV → List IV → List IV) (rC : PK → Bool) (rG : PK → Int) (sC : XV → Bool) (sG : XV → Int) (pC : Int → List IV → List IV → Bool) (pG : Int → List IV → List IV → List IV) (dC : Nat → List IV → List IV → Bool) (dG : List IV → List IV → List IV) : Cb (tab [(12, pkP rC fun p => .int .i64 (rG p)), (18, putP pC pG), (19, bitF), (20, xP .i64 sC sG), (21, dataP dC dG)]) (ltab [(10, 506, LF 10 0 (wL d g))]) 10 [p.iv] [] =
  (bif
       rC
         p then
     bif
         rG
             p !=
           (0 : Int) then
       some
         (IV.tup
             [IV.fsl (some true) true (nat_lit 0) [],
               IV.int IntKind.i64
                 (rG
                   p)],
           [])
     else
       bif
           pC (4 : Int)
             [IV.int IntKind.u64 (IntKind.u64.wrap p.de), IV.int IntKind.u64 (IntKind.u64.wrap p.di),
               IV.int IntKind.u64 (IntKind.u64.wrap p.ri)]
             [IV.int IntKind.u8
                 (IntKind.u8.wrap
                   (ibits BinOp.or IntKind.i64
                     (ibits BinOp.or IntKind.i64 (IntKind.i64.wrap (p.le * (2 : Int) ^ (6 : Nat)))
                       (IntKind.i64.wrap (p.ve * (2 : Int) ^ (3 : Nat))))
                     p.mo)),
               IV.int IntKind.u8 (IntKind.u8.wrap p.st), IV.int IntKind.u8 (IntKind.u8.wrap p.po),
               IV.int IntKind.u8 (IntKind.u8.wrap p.pr)] then
         bif
             pC (8 : Int)
               [IV.int IntKind.u64 p.rf, IV.int IntKind.u64 p.og, IV.int IntKind.u64 p.rc, IV.int IntKind.u64 p.xm]
               (pG (4 : Int)
                 [IV.int IntKind.u64 (IntKind.u64.wrap p.de), IV.int IntKind.u64 (IntKind.u64.wrap p.di),
                   IV.int IntKind.u64 (IntKind.u64.wrap p.ri)]
                 [IV.int IntKind.u8
                     (IntKind.u8.wrap
                       (ibits BinOp.or IntKind.i64
                         (ibits BinOp.or IntKind.i64 (IntKind.i64.wrap (p.le * (2 : Int) ^ (6 : Nat)))
                           (IntKind.i64.wrap (p.ve * (2 : Int) ^ (3 : Nat))))
                         p.mo)),
                   IV.int IntKind.u8 (IntKind.u8.wrap p.st), IV.int IntKind.u8 (IntKind.u8.wrap p.po),
                   IV.int IntKind.u8 (IntKind.u8.wrap p.pr)]) then
           bif
               d p.z1 p.es (↑p.es.length : Int) (0 : Int)
                 (pG (8 : Int)
                   [IV.int IntKind.u64 p.rf, IV.int IntKind.u64 p.og, IV.int IntKind.u64 p.rc, IV.int IntKind.u64 p.xm]
                   (pG (4 : Int)
                     [IV.int IntKind.u64 (IntKind.u64.wrap p.de), IV.int IntKind.u64 (IntKind.u64.wrap p.di),
                       IV.int IntKind.u64 (IntKind.u64.wrap p.ri)]
                     [IV.int IntKind.u8
                         (IntKind.u8.wrap
                           (ibits BinOp.or IntKind.i64
                             (ibits BinOp.or IntKind.i64 (IntKind.i64.wrap (p.le * (2 : Int) ^ (6 : Nat)))
                               (IntKind.i64.wrap (p.ve * (2 : Int) ^ (3 : Nat))))
                             p.mo)),
                       IV.int IntKind.u8 (IntKind.u8.wrap p.st), IV.int IntKind.u8 (IntKind.u8.wrap p.po),
                       IV.int IntKind.u8 (IntKind.u8.wrap p.pr)])) then
             bif p.ha then
               bif
                   pC (4 : Int) [IV.int IntKind.u64 (IntKind.u64.wrap p.ky)]
                     (g p.es
                       (pG (8 : Int)
                         [IV.int IntKind.u64 p.rf, IV.int IntKind.u64 p.og, IV.int IntKind.u64 p.rc,
                           IV.int IntKind.u64 p.xm]
                         (pG (4 : Int)
                           [IV.int IntKind.u64 (IntKind.u64.wrap p.de), IV.int IntKind.u64 (IntKind.u64.wrap p.di),
                             IV.int IntKind.u64 (IntKind.u64.wrap p.ri)]
                           [IV.int IntKind.u8
                               (IntKind.u8.wrap
                                 (ibits BinOp.or IntKind.i64
                                   (ibits BinOp.or IntKind.i64 (IntKind.i64.wrap (p.le * (2 : Int) ^ (6 : Nat)))
                                     (IntKind.i64.wrap (p.ve * (2 : Int) ^ (3 : Nat))))
                                   p.mo)),
                             IV.int IntKind.u8 (IntKind.u8.wrap p.st), IV.int IntKind.u8 (IntKind.u8.wrap p.po),
                             IV.int IntKind.u8 (IntKind.u8.wrap p.pr)]))) then
                 bif decide (p.z2 = (1 : Nat) ∨ p.su.length = (0 : Nat)) then
                   bif
                       decide
                         (((pG (4 : Int) [IV.int IntKind.u64 (IntKind.u64.wrap p.ky)]
                                     (g p.es
                                       (pG (8 : Int)
                                         [IV.int IntKind.u64 p.rf, IV.int IntKind.u64 p.og, IV.int IntKind.u64 p.rc,
                                           IV.int IntKind.u64 p.xm]
                                         (pG (4 : Int)
                                           [IV.int IntKind.u64 (IntKind.u64.wrap p.de),
                                             IV.int IntKind.u64 (IntKind.u64.wrap p.di),
                                             IV.int IntKind.u64 (IntKind.u64.wrap p.ri)]
                                           [IV.int IntKind.u8
                                               (IntKind.u8.wrap
                                                 (ibits BinOp.or IntKind.i64
                                                   (ibits BinOp.or IntKind.i64
                                                     (IntKind.i64.wrap (p.le * (2 : Int) ^ (6 : Nat)))
                                                     (IntKind.i64.wrap (p.ve * (2 : Int) ^ (3 : Nat))))
                                                   p.mo)),
                                             IV.int IntKind.u8 (IntKind.u8.wrap p.st),
                                             IV.int IntKind.u8 (IntKind.u8.wrap p.po),
                                             IV.int IntKind.u8 (IntKind.u8.wrap p.pr)])))).length +
                                 p.su.length) *
                               (1 : Nat) ≤
                             roomB ∧
                           (pG (4 : Int) [IV.int IntKind.u64 (IntKind.u64.wrap p.ky)]
                                   (g p.es
                                     (pG (8 : Int)
                                       [IV.int IntKind.u64 p.rf, IV.int IntKind.u64 p.og, IV.int IntKind.u64 p.rc,
                                         IV.int IntKind.u64 p.xm]
                                       (pG (4 : Int)
                                         [IV.int IntKind.u64 (IntKind.u64.wrap p.de),
                                           IV.int IntKind.u64 (IntKind.u64.wrap p.di),
                                           IV.int IntKind.u64 (IntKind.u64.wrap p.ri)]
                                         [IV.int IntKind.u8
                                             (IntKind.u8.wrap
                                               (ibits BinOp.or IntKind.i64
                                                 (ibits BinOp.or IntKind.i64
                                                   (IntKind.i64.wrap (p.le * (2 : Int) ^ (6 : Nat)))
                                                   (IntKind.i64.wrap (p.ve * (2 : Int) ^ (3 : Nat))))
                                                 p.mo)),
                                           IV.int IntKind.u8 (IntKind.u8.wrap p.st),
                                           IV.int IntKind.u8 (IntKind.u8.wrap p.po),
                                           IV.int IntKind.u8 (IntKind.u8.wrap p.pr)])))).length +
                               p.su.length ≤
                             maxLen) then
                     some
                       (IV.tup [IV.osl (nat_lit 0) (nat_lit 0), IV.int IntKind.i64 (0 : Int)],
                         [Blk.row (nat_lit 0) false (nat_lit 1)
                             (pG (4 : Int) [IV.int IntKind.u64 (IntKind.u64.wrap p.ky)]
                                 (g p.es
                                   (pG (8 : Int)
                                     [IV.int IntKind.u64 p.rf, IV.int IntKind.u64 p.og, IV.int IntKind.u64 p.rc,
                                       IV.int IntKind.u64 p.xm]
                                     (pG (4 : Int)
                                       [IV.int IntKind.u64 (IntKind.u64.wrap p.de),
                                         IV.int IntKind.u64 (IntKind.u64.wrap p.di),
                                         IV.int IntKind.u64 (IntKind.u64.wrap p.ri)]
                                       [IV.int IntKind.u8
                                           (IntKind.u8.wrap
                                             (ibits BinOp.or IntKind.i64
                                               (ibits BinOp.or IntKind.i64
                                                 (IntKind.i64.wrap (p.le * (2 : Int) ^ (6 : Nat)))
                                                 (IntKind.i64.wrap (p.ve * (2 : Int) ^ (3 : Nat))))
                                               p.mo)),
                                         IV.int IntKind.u8 (IntKind.u8.wrap p.st),
                                         IV.int IntKind.u8 (IntKind.u8.wrap p.po),
                                         IV.int IntKind.u8 (IntKind.u8.wrap p.pr)]))) ++
                               p.su)])
                   else none
                 else none
               else none
             else
               some
                 (IV.tup [IV.osl (nat_lit 0) (nat_lit 0), IV.int IntKind.i64 (0 : Int)],
                   [Blk.row (nat_lit 0) false (nat_lit 1)
                       (g p.es
                         (pG (8 : Int)
                           [IV.int IntKind.u64 p.rf, IV.int IntKind.u64 p.og, IV.int IntKind.u64 p.rc,
                             IV.int IntKind.u64 p.xm]
                           (pG (4 : Int)
                             [IV.int IntKind.u64 (IntKind.u64.wrap p.de), IV.int IntKind.u64 (IntKind.u64.wrap p.di),
                               IV.int IntKind.u64 (IntKind.u64.wrap p.ri)]
                             [IV.int IntKind.u8
                                 (IntKind.u8.wrap
                                   (ibits BinOp.or IntKind.i64
                                     (ibits BinOp.or IntKind.i64 (IntKind.i64.wrap (p.le * (2 : Int) ^ (6 : Nat)))
                                       (IntKind.i64.wrap (p.ve * (2 : Int) ^ (3 : Nat))))
                                     p.mo)),
                               IV.int IntKind.u8 (IntKind.u8.wrap p.st), IV.int IntKind.u8 (IntKind.u8.wrap p.po),
                               IV.int IntKind.u8 (IntKind.u8.wrap p.pr)])))])
           else none
         else none
       else none
   else none) := by kernel_rfl
theorem rw_in (p : PK) (e i : Int) (l : List IV) (rC : PK → Bool) (rG : PK → Int) (bG : Int → Int → List IV) (fC : XV → Bool) (fG : XV → List IV) (c1 c2 : Bool → Int → Nat → List IV → Bool) (g4 : Int → List IV → List IV) : Rd (tab [(13, pkP rC fun p => .int .i64 (rG p)), (22, byP byFC bG), (23, xRowP fC fG), (24, macP c1 c2 g4)]) 0 11 65530 (Sx 11 [.ptr 0 0, .int .i64 e, .osl 1 0, .int .i64 i] [.var false p.cells, .row 0 false 1 l]) =
  (bif decide (i < (↑p.es.length : Int)) then
     bif decide (p.z1 = (8 : Nat) ∧ (0 : Int) ≤ i ∧ i < (↑p.es.length : Int)) then
       bif
           testAll
             ([LT.i IntKind.i64] ++
               ([LT.b] ++
                 ([LT.b] ++
                   ([LT.i IntKind.i64] ++ ([LT.i IntKind.u32] ++ ([LT.i IntKind.u32] ++ ([LT.sl] ++ ([LT.sl] ++ []))))))))
             (0 : Nat) (nthD p.es i.toNat).cells then
         bif
             fC
               (toX (nthD p.es i.toNat)) then
           bif
               decide
                 ((l.length +
                         (fG
                             (toX (nthD p.es i.toNat))).length) *
                       (1 : Nat) ≤
                     roomB ∧
                   l.length +
                       (fG
                           (toX (nthD p.es i.toNat))).length ≤
                     maxLen) then
             some
               (Ex.normal,
                 Sx (11 : Nat)
                   [IV.ptr (nat_lit 0) (nat_lit 0), IV.int IntKind.i64 e, IV.osl (nat_lit 1) (nat_lit 0),
                     IV.int IntKind.i64 (IntKind.i64.wrap (i + (1 : Int)))]
                   [Blk.var false
                       p.cells,
                     Blk.row (nat_lit 0) false (nat_lit 1)
                       (l ++
                         fG
                           (toX (nthD p.es i.toNat)))])
           else none
         else none
       else none
     else none
   else
     some
       (Ex.exit (nat_lit 0),
         Sx (11 : Nat)
           [IV.ptr (nat_lit 0) (nat_lit 0), IV.int IntKind.i64 e, IV.osl (nat_lit 1) (nat_lit 0), IV.int IntKind.i64 i]
           [Blk.var false
               p.cells,
             Blk.row (nat_lit 0) false (nat_lit 1) l])) := by kernel_rfl
theorem rw_all (p : PK) (d : PK → Int → List IV → Bool) (g : PK → List IV → List IV) (rC : PK → Bool) (rG : PK → Int) (bG : Int → Int → List IV) (fC : XV → Bool) (fG : XV → List IV) (c1 c2 : Bool → Int → Nat → List IV → Bool) (g4 : Int → List IV → List IV) : Cb (tab [(13, pkP rC fun p => .int .i64 (rG p)), (22, byP byFC bG), (23, xRowP fC fG), (24, macP c1 c2 g4)]) (ltab [(11, 65530, LF 11 0 (rwL d g))]) 11 [p.iv] [] =
  (bif
       rC
         p then
     bif
         rG
             p !=
           (0 : Int) then
       some
         (IV.tup
             [IV.fsl (some true) true (nat_lit 0) [],
               IV.int IntKind.i64
                 (rG
                   p)],
           [])
     else
       bif
           decide
             ((([] ++
                         [IV.int IntKind.u8
                             (IntKind.u8.wrap
                               (IntKind.i64.wrap
                                 (IntKind.i64.wrap
                                     (IntKind.i64.wrap ((64 : Int) * p.le) + IntKind.i64.wrap ((8 : Int) * p.ve)) +
                                   p.mo))),
                           IV.int IntKind.u8 (IntKind.u8.wrap p.st), IV.int IntKind.u8 (IntKind.u8.wrap p.po),
                           IV.int IntKind.u8 (IntKind.u8.wrap p.pr)]).length +
                     (bG (IntKind.u64.wrap p.de) (4 : Int)).length) *
                   (1 : Nat) ≤
                 roomB ∧
               ([] ++
                       [IV.int IntKind.u8
                           (IntKind.u8.wrap
                             (IntKind.i64.wrap
                               (IntKind.i64.wrap
                                   (IntKind.i64.wrap ((64 : Int) * p.le) + IntKind.i64.wrap ((8 : Int) * p.ve)) +
                                 p.mo))),
                         IV.int IntKind.u8 (IntKind.u8.wrap p.st), IV.int IntKind.u8 (IntKind.u8.wrap p.po),
                         IV.int IntKind.u8 (IntKind.u8.wrap p.pr)]).length +
                   (bG (IntKind.u64.wrap p.de) (4 : Int)).length ≤
                 maxLen) then
         bif
             decide
               ((([] ++
                             [IV.int IntKind.u8
                                 (IntKind.u8.wrap
                                   (IntKind.i64.wrap
                                     (IntKind.i64.wrap
                                         (IntKind.i64.wrap ((64 : Int) * p.le) + IntKind.i64.wrap ((8 : Int) * p.ve)) +
                                       p.mo))),
                               IV.int IntKind.u8 (IntKind.u8.wrap p.st), IV.int IntKind.u8 (IntKind.u8.wrap p.po),
                               IV.int IntKind.u8 (IntKind.u8.wrap p.pr)] ++
                           bG (IntKind.u64.wrap p.de) (4 : Int)).length +
                       (bG (IntKind.u64.wrap p.di) (4 : Int)).length) *
                     (1 : Nat) ≤
                   roomB ∧
                 ([] ++
                           [IV.int IntKind.u8
                               (IntKind.u8.wrap
                                 (IntKind.i64.wrap
                                   (IntKind.i64.wrap
                                       (IntKind.i64.wrap ((64 : Int) * p.le) + IntKind.i64.wrap ((8 : Int) * p.ve)) +
                                     p.mo))),
                             IV.int IntKind.u8 (IntKind.u8.wrap p.st), IV.int IntKind.u8 (IntKind.u8.wrap p.po),
                             IV.int IntKind.u8 (IntKind.u8.wrap p.pr)] ++
                         bG (IntKind.u64.wrap p.de) (4 : Int)).length +
                     (bG (IntKind.u64.wrap p.di) (4 : Int)).length ≤
                   maxLen) then
           bif
               decide
                 ((([] ++
                                 [IV.int IntKind.u8
                                     (IntKind.u8.wrap
                                       (IntKind.i64.wrap
                                         (IntKind.i64.wrap
                                             (IntKind.i64.wrap ((64 : Int) * p.le) + IntKind.i64.wrap ((8 : Int) * p.ve)) +
                                           p.mo))),
                                   IV.int IntKind.u8 (IntKind.u8.wrap p.st), IV.int IntKind.u8 (IntKind.u8.wrap p.po),
                                   IV.int IntKind.u8 (IntKind.u8.wrap p.pr)] ++
                               bG (IntKind.u64.wrap p.de) (4 : Int) ++
                             bG (IntKind.u64.wrap p.di) (4 : Int)).length +
                         (bG (IntKind.u64.wrap p.ri) (4 : Int)).length) *
                       (1 : Nat) ≤
                     roomB ∧
                   ([] ++
                               [IV.int IntKind.u8
                                   (IntKind.u8.wrap
                                     (IntKind.i64.wrap
                                       (IntKind.i64.wrap
                                           (IntKind.i64.wrap ((64 : Int) * p.le) + IntKind.i64.wrap ((8 : Int) * p.ve)) +
                                         p.mo))),
                                 IV.int IntKind.u8 (IntKind.u8.wrap p.st), IV.int IntKind.u8 (IntKind.u8.wrap p.po),
                                 IV.int IntKind.u8 (IntKind.u8.wrap p.pr)] ++
                             bG (IntKind.u64.wrap p.de) (4 : Int) ++
                           bG (IntKind.u64.wrap p.di) (4 : Int)).length +
                       (bG (IntKind.u64.wrap p.ri) (4 : Int)).length ≤
                     maxLen) then
             bif
                 decide
                   ((([] ++
                                     [IV.int IntKind.u8
                                         (IntKind.u8.wrap
                                           (IntKind.i64.wrap
                                             (IntKind.i64.wrap
                                                 (IntKind.i64.wrap ((64 : Int) * p.le) +
                                                   IntKind.i64.wrap ((8 : Int) * p.ve)) +
                                               p.mo))),
                                       IV.int IntKind.u8 (IntKind.u8.wrap p.st), IV.int IntKind.u8 (IntKind.u8.wrap p.po),
                                       IV.int IntKind.u8 (IntKind.u8.wrap p.pr)] ++
                                   bG (IntKind.u64.wrap p.de) (4 : Int) ++
                                 bG (IntKind.u64.wrap p.di) (4 : Int) ++
                               bG (IntKind.u64.wrap p.ri) (4 : Int)).length +
                           (bG p.rf (8 : Int)).length) *
                         (1 : Nat) ≤
                       roomB ∧
                     ([] ++
                                   [IV.int IntKind.u8
                                       (IntKind.u8.wrap
                                         (IntKind.i64.wrap
                                           (IntKind.i64.wrap
                                               (IntKind.i64.wrap ((64 : Int) * p.le) +
                                                 IntKind.i64.wrap ((8 : Int) * p.ve)) +
                                             p.mo))),
                                     IV.int IntKind.u8 (IntKind.u8.wrap p.st), IV.int IntKind.u8 (IntKind.u8.wrap p.po),
                                     IV.int IntKind.u8 (IntKind.u8.wrap p.pr)] ++
                                 bG (IntKind.u64.wrap p.de) (4 : Int) ++
                               bG (IntKind.u64.wrap p.di) (4 : Int) ++
                             bG (IntKind.u64.wrap p.ri) (4 : Int)).length +
                         (bG p.rf (8 : Int)).length ≤
                       maxLen) then
               bif
                   decide
                     ((([] ++
                                         [IV.int IntKind.u8
                                             (IntKind.u8.wrap
                                               (IntKind.i64.wrap
                                                 (IntKind.i64.wrap
                                                     (IntKind.i64.wrap ((64 : Int) * p.le) +
                                                       IntKind.i64.wrap ((8 : Int) * p.ve)) +
                                                   p.mo))),
                                           IV.int IntKind.u8 (IntKind.u8.wrap p.st),
                                           IV.int IntKind.u8 (IntKind.u8.wrap p.po),
                                           IV.int IntKind.u8 (IntKind.u8.wrap p.pr)] ++
                                       bG (IntKind.u64.wrap p.de) (4 : Int) ++
                                     bG (IntKind.u64.wrap p.di) (4 : Int) ++
                                   bG (IntKind.u64.wrap p.ri) (4 : Int) ++
                                 bG p.rf (8 : Int)).length +
                             (bG p.og (8 : Int)).length) *
                           (1 : Nat) ≤
                         roomB ∧
                       ([] ++
                                       [IV.int IntKind.u8
                                           (IntKind.u8.wrap
                                             (IntKind.i64.wrap
                                               (IntKind.i64.wrap
                                                   (IntKind.i64.wrap ((64 : Int) * p.le) +
                                                     IntKind.i64.wrap ((8 : Int) * p.ve)) +
                                                 p.mo))),
                                         IV.int IntKind.u8 (IntKind.u8.wrap p.st),
                                         IV.int IntKind.u8 (IntKind.u8.wrap p.po),
                                         IV.int IntKind.u8 (IntKind.u8.wrap p.pr)] ++
                                     bG (IntKind.u64.wrap p.de) (4 : Int) ++
                                   bG (IntKind.u64.wrap p.di) (4 : Int) ++
                                 bG (IntKind.u64.wrap p.ri) (4 : Int) ++
                               bG p.rf (8 : Int)).length +
                           (bG p.og (8 : Int)).length ≤
                         maxLen) then
                 bif
                     decide
                       ((([] ++
                                             [IV.int IntKind.u8
                                                 (IntKind.u8.wrap
                                                   (IntKind.i64.wrap
                                                     (IntKind.i64.wrap
                                                         (IntKind.i64.wrap ((64 : Int) * p.le) +
                                                           IntKind.i64.wrap ((8 : Int) * p.ve)) +
                                                       p.mo))),
                                               IV.int IntKind.u8 (IntKind.u8.wrap p.st),
                                               IV.int IntKind.u8 (IntKind.u8.wrap p.po),
                                               IV.int IntKind.u8 (IntKind.u8.wrap p.pr)] ++
                                           bG (IntKind.u64.wrap p.de) (4 : Int) ++
                                         bG (IntKind.u64.wrap p.di) (4 : Int) ++
                                       bG (IntKind.u64.wrap p.ri) (4 : Int) ++
                                     bG p.rf (8 : Int) ++
                                   bG p.og (8 : Int)).length +
                               (bG p.rc (8 : Int)).length) *
                             (1 : Nat) ≤
                           roomB ∧
                         ([] ++
                                           [IV.int IntKind.u8
                                               (IntKind.u8.wrap
                                                 (IntKind.i64.wrap
                                                   (IntKind.i64.wrap
                                                       (IntKind.i64.wrap ((64 : Int) * p.le) +
                                                         IntKind.i64.wrap ((8 : Int) * p.ve)) +
                                                     p.mo))),
                                             IV.int IntKind.u8 (IntKind.u8.wrap p.st),
                                             IV.int IntKind.u8 (IntKind.u8.wrap p.po),
                                             IV.int IntKind.u8 (IntKind.u8.wrap p.pr)] ++
                                         bG (IntKind.u64.wrap p.de) (4 : Int) ++
                                       bG (IntKind.u64.wrap p.di) (4 : Int) ++
                                     bG (IntKind.u64.wrap p.ri) (4 : Int) ++
                                   bG p.rf (8 : Int) ++
                                 bG p.og (8 : Int)).length +
                             (bG p.rc (8 : Int)).length ≤
                           maxLen) then
                   bif
                       decide
                         ((([] ++
                                                 [IV.int IntKind.u8
                                                     (IntKind.u8.wrap
                                                       (IntKind.i64.wrap
                                                         (IntKind.i64.wrap
                                                             (IntKind.i64.wrap ((64 : Int) * p.le) +
                                                               IntKind.i64.wrap ((8 : Int) * p.ve)) +
                                                           p.mo))),
                                                   IV.int IntKind.u8 (IntKind.u8.wrap p.st),
                                                   IV.int IntKind.u8 (IntKind.u8.wrap p.po),
                                                   IV.int IntKind.u8 (IntKind.u8.wrap p.pr)] ++
                                               bG (IntKind.u64.wrap p.de) (4 : Int) ++
                                             bG (IntKind.u64.wrap p.di) (4 : Int) ++
                                           bG (IntKind.u64.wrap p.ri) (4 : Int) ++
                                         bG p.rf (8 : Int) ++
                                       bG p.og (8 : Int) ++
                                     bG p.rc (8 : Int)).length +
                                 (bG p.xm (8 : Int)).length) *
                               (1 : Nat) ≤
                             roomB ∧
                           ([] ++
                                               [IV.int IntKind.u8
                                                   (IntKind.u8.wrap
                                                     (IntKind.i64.wrap
                                                       (IntKind.i64.wrap
                                                           (IntKind.i64.wrap ((64 : Int) * p.le) +
                                                             IntKind.i64.wrap ((8 : Int) * p.ve)) +
                                                         p.mo))),
                                                 IV.int IntKind.u8 (IntKind.u8.wrap p.st),
                                                 IV.int IntKind.u8 (IntKind.u8.wrap p.po),
                                                 IV.int IntKind.u8 (IntKind.u8.wrap p.pr)] ++
                                             bG (IntKind.u64.wrap p.de) (4 : Int) ++
                                           bG (IntKind.u64.wrap p.di) (4 : Int) ++
                                         bG (IntKind.u64.wrap p.ri) (4 : Int) ++
                                       bG p.rf (8 : Int) ++
                                     bG p.og (8 : Int) ++
                                   bG p.rc (8 : Int)).length +
                               (bG p.xm (8 : Int)).length ≤
                             maxLen) then
                     bif
                         d
                           p
                           (0 : Int)
                           ([] ++
                                           [IV.int IntKind.u8
                                               (IntKind.u8.wrap
                                                 (IntKind.i64.wrap
                                                   (IntKind.i64.wrap
                                                       (IntKind.i64.wrap ((64 : Int) * p.le) +
                                                         IntKind.i64.wrap ((8 : Int) * p.ve)) +
                                                     p.mo))),
                                             IV.int IntKind.u8 (IntKind.u8.wrap p.st),
                                             IV.int IntKind.u8 (IntKind.u8.wrap p.po),
                                             IV.int IntKind.u8 (IntKind.u8.wrap p.pr)] ++
                                         bG (IntKind.u64.wrap p.de) (4 : Int) ++
                                       bG (IntKind.u64.wrap p.di) (4 : Int) ++
                                     bG (IntKind.u64.wrap p.ri) (4 : Int) ++
                                   bG p.rf (8 : Int) ++
                                 bG p.og (8 : Int) ++
                               bG p.rc (8 : Int) ++
                             bG p.xm (8 : Int)) then
                       bif c1 p.ha p.ky p.z2 p.su then
                         bif
                             decide
                               (((g
                                           p
                                           ([] ++
                                                           [IV.int IntKind.u8
                                                               (IntKind.u8.wrap
                                                                 (IntKind.i64.wrap
                                                                   (IntKind.i64.wrap
                                                                       (IntKind.i64.wrap ((64 : Int) * p.le) +
                                                                         IntKind.i64.wrap ((8 : Int) * p.ve)) +
                                                                     p.mo))),
                                                             IV.int IntKind.u8 (IntKind.u8.wrap p.st),
                                                             IV.int IntKind.u8 (IntKind.u8.wrap p.po),
                                                             IV.int IntKind.u8 (IntKind.u8.wrap p.pr)] ++
                                                         bG (IntKind.u64.wrap p.de) (4 : Int) ++
                                                       bG (IntKind.u64.wrap p.di) (4 : Int) ++
                                                     bG (IntKind.u64.wrap p.ri) (4 : Int) ++
                                                   bG p.rf (8 : Int) ++
                                                 bG p.og (8 : Int) ++
                                               bG p.rc (8 : Int) ++
                                             bG p.xm (8 : Int))).length +
                                       (0 : Nat)) *
                                     (1 : Nat) ≤
                                   roomB ∧
                                 (g
                                         p
                                         ([] ++
                                                         [IV.int IntKind.u8
                                                             (IntKind.u8.wrap
                                                               (IntKind.i64.wrap
                                                                 (IntKind.i64.wrap
                                                                     (IntKind.i64.wrap ((64 : Int) * p.le) +
                                                                       IntKind.i64.wrap ((8 : Int) * p.ve)) +
                                                                   p.mo))),
                                                           IV.int IntKind.u8 (IntKind.u8.wrap p.st),
                                                           IV.int IntKind.u8 (IntKind.u8.wrap p.po),
                                                           IV.int IntKind.u8 (IntKind.u8.wrap p.pr)] ++
                                                       bG (IntKind.u64.wrap p.de) (4 : Int) ++
                                                     bG (IntKind.u64.wrap p.di) (4 : Int) ++
                                                   bG (IntKind.u64.wrap p.ri) (4 : Int) ++
                                                 bG p.rf (8 : Int) ++
                                               bG p.og (8 : Int) ++
                                             bG p.rc (8 : Int) ++
                                           bG p.xm (8 : Int))).length +
                                     (0 : Nat) ≤
                                   maxLen) then
                           some
                             (IV.tup
                                 [IV.osl (nat_lit 0) (nat_lit 0),
                                   IV.int IntKind.i64
                                     (rG
                                       p)],
                               [Blk.row (nat_lit 0) false (nat_lit 1)
                                   (g
                                       p
                                       ([] ++
                                                       [IV.int IntKind.u8
                                                           (IntKind.u8.wrap
                                                             (IntKind.i64.wrap
                                                               (IntKind.i64.wrap
                                                                   (IntKind.i64.wrap ((64 : Int) * p.le) +
                                                                     IntKind.i64.wrap ((8 : Int) * p.ve)) +
                                                                 p.mo))),
                                                         IV.int IntKind.u8 (IntKind.u8.wrap p.st),
                                                         IV.int IntKind.u8 (IntKind.u8.wrap p.po),
                                                         IV.int IntKind.u8 (IntKind.u8.wrap p.pr)] ++
                                                     bG (IntKind.u64.wrap p.de) (4 : Int) ++
                                                   bG (IntKind.u64.wrap p.di) (4 : Int) ++
                                                 bG (IntKind.u64.wrap p.ri) (4 : Int) ++
                                               bG p.rf (8 : Int) ++
                                             bG p.og (8 : Int) ++
                                           bG p.rc (8 : Int) ++
                                         bG p.xm (8 : Int)) ++
                                     [])])
                         else none
                       else
                         bif c2 p.ha p.ky p.z2 p.su then
                           bif
                               decide
                                 (((g
                                             p
                                             ([] ++
                                                             [IV.int IntKind.u8
                                                                 (IntKind.u8.wrap
                                                                   (IntKind.i64.wrap
                                                                     (IntKind.i64.wrap
                                                                         (IntKind.i64.wrap ((64 : Int) * p.le) +
                                                                           IntKind.i64.wrap ((8 : Int) * p.ve)) +
                                                                       p.mo))),
                                                               IV.int IntKind.u8 (IntKind.u8.wrap p.st),
                                                               IV.int IntKind.u8 (IntKind.u8.wrap p.po),
                                                               IV.int IntKind.u8 (IntKind.u8.wrap p.pr)] ++
                                                           bG (IntKind.u64.wrap p.de) (4 : Int) ++
                                                         bG (IntKind.u64.wrap p.di) (4 : Int) ++
                                                       bG (IntKind.u64.wrap p.ri) (4 : Int) ++
                                                     bG p.rf (8 : Int) ++
                                                   bG p.og (8 : Int) ++
                                                 bG p.rc (8 : Int) ++
                                               bG p.xm (8 : Int))).length +
                                         (g4 p.ky p.su).length) *
                                       (1 : Nat) ≤
                                     roomB ∧
                                   (g
                                           p
                                           ([] ++
                                                           [IV.int IntKind.u8
                                                               (IntKind.u8.wrap
                                                                 (IntKind.i64.wrap
                                                                   (IntKind.i64.wrap
                                                                       (IntKind.i64.wrap ((64 : Int) * p.le) +
                                                                         IntKind.i64.wrap ((8 : Int) * p.ve)) +
                                                                     p.mo))),
                                                             IV.int IntKind.u8 (IntKind.u8.wrap p.st),
                                                             IV.int IntKind.u8 (IntKind.u8.wrap p.po),
                                                             IV.int IntKind.u8 (IntKind.u8.wrap p.pr)] ++
                                                         bG (IntKind.u64.wrap p.de) (4 : Int) ++
                                                       bG (IntKind.u64.wrap p.di) (4 : Int) ++
                                                     bG (IntKind.u64.wrap p.ri) (4 : Int) ++
                                                   bG p.rf (8 : Int) ++
                                                 bG p.og (8 : Int) ++
                                               bG p.rc (8 : Int) ++
                                             bG p.xm (8 : Int))).length +
                                       (g4 p.ky p.su).length ≤
                                     maxLen) then
                             some
                               (IV.tup
                                   [IV.osl (nat_lit 0) (nat_lit 0),
                                     IV.int IntKind.i64
                                       (rG
                                         p)],
                                 [Blk.row (nat_lit 0) false (nat_lit 1)
                                     (g
                                         p
                                         ([] ++
                                                         [IV.int IntKind.u8
                                                             (IntKind.u8.wrap
                                                               (IntKind.i64.wrap
                                                                 (IntKind.i64.wrap
                                                                     (IntKind.i64.wrap ((64 : Int) * p.le) +
                                                                       IntKind.i64.wrap ((8 : Int) * p.ve)) +
                                                                   p.mo))),
                                                           IV.int IntKind.u8 (IntKind.u8.wrap p.st),
                                                           IV.int IntKind.u8 (IntKind.u8.wrap p.po),
                                                           IV.int IntKind.u8 (IntKind.u8.wrap p.pr)] ++
                                                       bG (IntKind.u64.wrap p.de) (4 : Int) ++
                                                     bG (IntKind.u64.wrap p.di) (4 : Int) ++
                                                   bG (IntKind.u64.wrap p.ri) (4 : Int) ++
                                                 bG p.rf (8 : Int) ++
                                               bG p.og (8 : Int) ++
                                             bG p.rc (8 : Int) ++
                                           bG p.xm (8 : Int)) ++
                                       g4 p.ky p.su)])
                           else none
                         else none
                     else none
                   else none
                 else none
               else none
             else none
           else none
         else none
       else none
   else none) := by kernel_rfl
end Go.Proofs.Ytphddjolipaejaa
