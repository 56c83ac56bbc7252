/- What is read, and the laws' trees: what the given program does. It bears no condition. -/
import Derived.Test.YtphddjolipaejaaWiY
-- FOLDS WiC.src.lean
namespace Go.Proofs.Ytphddjolipaejaa
open Go Go.Im
set_option linter.unusedVariables false
def rwP (c : Nat → List IV → Bool) (p : List IV → PK) (fa fc : List IV → Int) : SpecF := fun xs T => match xs, T with
  | [.fsl nl cl z l], [] => [(c z l, .tup [(p l).iv, .agg [.int .i64 (fa l), .int .i64 (fc l)]], [])]
  | _, _ => []
def fntP (c : Nat → List IV → Bool) (g : List IV → List IV) (fc : List IV → Int) : SpecF := fun xs T => match xs, T with
  | [.fsl nl cl z l], [] => [(c z l, .tup [.fsl none false 1 (g l), .int .i64 (fc l)], [])]
  | _, _ => []
theorem rdw_all (nl : Option Bool) (cl : Bool) (z : Nat) (l : List IV) (c : Nat → List IV → Bool) (p : List IV → PK) (k fa fc : List IV → Int) : Cb (tab [(27, rdP c p k fa fc)]) (fun _ _ => none) 15 [.fsl nl cl z l] [] =
  (bif c z l then
     some
       (IV.tup
           [IV.agg ((p l).cells),
             IV.agg [IV.int IntKind.i64 (fa l), IV.int IntKind.i64 (fc l)]],
         [])
   else none) := by kernel_rfl
theorem fnt_all (nl : Option Bool) (cl : Bool) (z : Nat) (l : List IV) (c : Nat → List IV → Bool) (p : List IV → PK) (k fa fc : List IV → Int) (cC : Nat → List IV → Bool) : Cb (tab [(27, rdP c p k fa fc), (28, cloneP cC)]) (fun _ _ => none) 16 [.fsl nl cl z l] [] =
  (bif c z l then
     bif fc l != (0 : Int) then some (IV.tup [IV.fsl (some true) true (nat_lit 0) [], IV.int IntKind.i64 (fc l)], [])
     else
       bif decide ((0 : Int) ≤ (0 : Int) ∧ (0 : Int) ≤ k l ∧ k l ≤ (↑l.length : Int)) then
         bif decide (z = (1 : Nat) ∨ l.length = (0 : Nat)) then
           bif cC z (List.take ((k l).toNat - (0 : Nat)) (List.drop (0 : Nat) l)) then
             some
               (IV.tup
                   [IV.fsl none false (nat_lit 1) (List.take ((k l).toNat - (0 : Nat)) (List.drop (0 : Nat) l)),
                     IV.int IntKind.i64 (0 : Int)],
                 [])
           else none
         else none
       else none
   else none) := by kernel_rfl
noncomputable abbrev lawTab2 (hC : PK → Bool) (hG : PK → Bool) (wC1 wC2 : PK → Bool) (wG : PK → List IV) (rC : PK → Bool) (rG : PK → Int) (sC sG : PK → PK → Bool) (c : Nat → List IV → Bool) (q : List IV → PK) (fa fc : List IV → Int) (g : List IV → List IV) : FuncId → Option SpecF :=
  tab [(7, pkP hC fun p => .bool (hG p)), (8, constF (.bool true)), (10, wrP wC1 wC2 wG), (12, pkP rC fun p => .int .i64 (rG p)), (14, ppP sC sG), (15, rwP c q fa fc), (16, fntP c g fc)]
theorem back_all (p : PK) (nl : Option Bool) (cl : Bool) (l : List IV) (hC : PK → Bool) (hG : PK → Bool) (wC1 wC2 : PK → Bool) (wG : PK → List IV) (rC : PK → Bool) (rG : PK → Int) (sC sG : PK → PK → Bool) (c : Nat → List IV → Bool) (q : List IV → PK) (fa fc : List IV → Int) (g : List IV → List IV) : Cb (lawTab2 hC hG wC1 wC2 wG rC rG sC sG c q fa fc g) (fun _ _ => none) 4 [p.iv, .fsl nl cl 1 l] [] =
  (bif
       hC
         p then
     bif
         bif
             hG
               p then
           true
         else decide ((↑l.length : Int) > (4000 : Int)) then
       some (IV.bool true, [])
     else
       bif
           wC1
             p then
         bif
             c (1 : Nat)
               (wG
                 p) then
           bif
               (fc
                     (wG
                       p) !=
                   (0 : Int)) ==
                 false then
             bif
                 sC
                   p
                   (q
                           (wG
                             { le := p.le, ve := p.ve, mo := p.mo, st := p.st, po := p.po, pr := p.pr, de := p.de,
                               di := p.di, ri := p.ri, rf := p.rf, og := p.og, rc := p.rc, xm := p.xm, n1 := p.n1,
                               c1 := p.c1, z1 := p.z1, es := p.es, ha := p.ha, ky := p.ky, n2 := p.n2, c2 := p.c2,
                               z2 := p.z2, su := p.su })) then
               bif
                   bif false then true
                   else
                     !sG
                         p
                         (q
                                 (wG
                                   { le := p.le, ve := p.ve, mo := p.mo, st := p.st, po := p.po, pr := p.pr, de := p.de,
                                     di := p.di, ri := p.ri, rf := p.rf, og := p.og, rc := p.rc, xm := p.xm, n1 := p.n1,
                                     c1 := p.c1, z1 := p.z1, es := p.es, ha := p.ha, ky := p.ky, n2 := p.n2, c2 := p.c2,
                                     z2 := p.z2, su := p.su })) then
                 some (IV.bool false, [])
               else
                 bif c (1 : Nat) l then
                   bif fc l != (0 : Int) then
                     bif
                         sC
                           (q l)
                           { le := (0 : Int), ve := (0 : Int), mo := (0 : Int), st := (0 : Int), po := (0 : Int),
                             pr := (0 : Int), de := (0 : Int), di := (0 : Int), ri := (0 : Int), rf := (0 : Int),
                             og := (0 : Int), rc := (0 : Int), xm := (0 : Int), n1 := some true, c1 := true,
                             z1 := (0 : Nat), es := [], ha := false, ky := (0 : Int), n2 := some true, c2 := true,
                             z2 := (0 : Nat), su := [] } then
                       some
                         (IV.bool
                             (bif
                                 bif
                                     bif true then
                                       sG
                                         (q l)
                                         { le := (0 : Int), ve := (0 : Int), mo := (0 : Int), st := (0 : Int),
                                           po := (0 : Int), pr := (0 : Int), de := (0 : Int), di := (0 : Int),
                                           ri := (0 : Int), rf := (0 : Int), og := (0 : Int), rc := (0 : Int),
                                           xm := (0 : Int), n1 := some true, c1 := true, z1 := (0 : Nat), es := [],
                                           ha := false, ky := (0 : Int), n2 := some true, c2 := true, z2 := (0 : Nat),
                                           su := [] }
                                     else false then
                                   decide (fa l ≥ (0 : Int))
                                 else false then
                               decide (fa l ≤ (↑l.length : Int))
                             else false),
                           [])
                     else none
                   else
                     bif
                         wC1
                           (q l) then
                       bif
                           rC
                             (q l) then
                         bif
                             decide
                                 ((1 : Nat) = (1 : Nat) ∨
                                   (wG
                                         (q l)).length =
                                     (0 : Nat)) &&
                               isBytes
                                 (wG
                                   (q l)) then
                           bif decide ((1 : Nat) = (1 : Nat) ∨ l.length = (0 : Nat)) && isBytes l then
                             some
                               (IV.bool
                                   (bif
                                       bif
                                           bif true then
                                             rG
                                                 (q l) ==
                                               (0 : Int)
                                           else false then
                                         (0 : Int) == (0 : Int)
                                       else false then
                                     toBytes
                                         (wG
                                           (q l)) ==
                                       toBytes l
                                   else false),
                                 [])
                           else none
                         else none
                       else none
                     else
                       bif
                           wC2
                             (q l) then
                         bif
                             rC
                               (q l) then
                           bif decide ((1 : Nat) = (1 : Nat) ∨ l.length = (0 : Nat)) && isBytes l then
                             some
                               (IV.bool
                                   (bif
                                       bif
                                           bif true then
                                             rG
                                                 (q l) ==
                                               (0 : Int)
                                           else false then
                                         (3 : Int) == (0 : Int)
                                       else false then
                                     toBytes [] == toBytes l
                                   else false),
                                 [])
                           else none
                         else none
                       else none
                 else none
             else none
           else some (IV.bool false, [])
         else none
       else
         bif
             wC2
               p then
           bif c (1 : Nat) l then
             bif fc l != (0 : Int) then
               bif
                   sC
                     (q l)
                     { le := (0 : Int), ve := (0 : Int), mo := (0 : Int), st := (0 : Int), po := (0 : Int),
                       pr := (0 : Int), de := (0 : Int), di := (0 : Int), ri := (0 : Int), rf := (0 : Int),
                       og := (0 : Int), rc := (0 : Int), xm := (0 : Int), n1 := some true, c1 := true, z1 := (0 : Nat),
                       es := [], ha := false, ky := (0 : Int), n2 := some true, c2 := true, z2 := (0 : Nat),
                       su := [] } then
                 some
                   (IV.bool
                       (bif
                           bif
                               bif true then
                                 sG
                                   (q l)
                                   { le := (0 : Int), ve := (0 : Int), mo := (0 : Int), st := (0 : Int), po := (0 : Int),
                                     pr := (0 : Int), de := (0 : Int), di := (0 : Int), ri := (0 : Int), rf := (0 : Int),
                                     og := (0 : Int), rc := (0 : Int), xm := (0 : Int), n1 := some true, c1 := true,
                                     z1 := (0 : Nat), es := [], ha := false, ky := (0 : Int), n2 := some true, c2 := true,
                                     z2 := (0 : Nat), su := [] }
                               else false then
                             decide (fa l ≥ (0 : Int))
                           else false then
                         decide (fa l ≤ (↑l.length : Int))
                       else false),
                     [])
               else none
             else
               bif
                   wC1
                     (q l) then
                 bif
                     rC
                       (q l) then
                   bif
                       decide
                           ((1 : Nat) = (1 : Nat) ∨
                             (wG
                                   (q l)).length =
                               (0 : Nat)) &&
                         isBytes
                           (wG
                             (q l)) then
                     bif decide ((1 : Nat) = (1 : Nat) ∨ l.length = (0 : Nat)) && isBytes l then
                       some
                         (IV.bool
                             (bif
                                 bif
                                     bif true then
                                       rG
                                           (q l) ==
                                         (0 : Int)
                                     else false then
                                   (0 : Int) == (0 : Int)
                                 else false then
                               toBytes
                                   (wG
                                     (q l)) ==
                                 toBytes l
                             else false),
                           [])
                     else none
                   else none
                 else none
               else
                 bif
                     wC2
                       (q l) then
                   bif
                       rC
                         (q l) then
                     bif decide ((1 : Nat) = (1 : Nat) ∨ l.length = (0 : Nat)) && isBytes l then
                       some
                         (IV.bool
                             (bif
                                 bif
                                     bif true then
                                       rG
                                           (q l) ==
                                         (0 : Int)
                                     else false then
                                   (3 : Int) == (0 : Int)
                                 else false then
                               toBytes [] == toBytes l
                             else false),
                           [])
                     else none
                   else none
                 else none
           else none
         else none
   else none) := by kernel_rfl
theorem cut_law (p : PK) (n m : Int) (hC : PK → Bool) (hG : PK → Bool) (wC1 wC2 : PK → Bool) (wG : PK → List IV) (rC : PK → Bool) (rG : PK → Int) (sC sG : PK → PK → Bool) (c : Nat → List IV → Bool) (q : List IV → PK) (fa fc : List IV → Int) (g : List IV → List IV) : Cb (lawTab2 hC hG wC1 wC2 wG rC rG sC sG c q fa fc g) (fun _ _ => none) 5 [p.iv, .int .i64 n, .int .u8 m] [] =
  (bif
       hC
         p then
     bif
         hG
           p then
       some (IV.bool true, [])
     else
       bif
           wC1
             p then
         bif
             decide
               (((0 : Nat) +
                       (wG
                           p).length) *
                     (1 : Nat) ≤
                   roomB ∧
                 (0 : Nat) +
                     (wG
                         p).length ≤
                   maxLen) then
           bif
               decide
                 ((([] ++
                             wG
                               p).length +
                         [IV.int IntKind.u8 m].length) *
                       (1 : Nat) ≤
                     roomB ∧
                   ([] ++
                           wG
                             p).length +
                       [IV.int IntKind.u8 m].length ≤
                     maxLen) then
             bif
                 c (1 : Nat)
                   ([] ++
                       wG
                         p ++
                     [IV.int IntKind.u8 m]) then
               bif
                   fc
                       ([] ++
                           wG
                             p ++
                         [IV.int IntKind.u8 m]) ==
                     (0 : Int) then
                 some (IV.bool false, [])
               else
                 bif
                     bif decide (n < (0 : Int)) then true
                     else
                       decide
                         (n ≥
                           (↑(wG
                                   p).length :
                             Int)) then
                   some (IV.bool true, [])
                 else
                   bif
                       decide
                         ((0 : Int) ≤ (0 : Int) ∧
                           (0 : Int) ≤ n ∧
                             n ≤
                               (↑(wG
                                       p).length :
                                 Int)) then
                     bif
                         c (1 : Nat)
                           (List.take (n.toNat - (0 : Nat))
                             (List.drop (0 : Nat)
                               (wG
                                 p))) then
                       bif decide (n < (48 : Int)) then
                         some
                           (IV.bool
                               (bif true then
                                 fa
                                       (List.take (n.toNat - (0 : Nat))
                                         (List.drop (0 : Nat)
                                           (wG
                                             p))) ==
                                     n &&
                                   (fc
                                         (List.take (n.toNat - (0 : Nat))
                                           (List.drop (0 : Nat)
                                             (wG
                                               p))) ==
                                       (72 : Int) &&
                                     true)
                               else false),
                             [])
                       else
                         bif
                             true == true &&
                               (fc
                                     (List.take (n.toNat - (0 : Nat))
                                       (List.drop (0 : Nat)
                                         (wG
                                           p))) !=
                                   (0 : Int)) ==
                                 false then
                           bif
                               sC
                                 p
                                 {
                                   le :=
                                     (q
                                         (List.take (n.toNat - (0 : Nat))
                                           (List.drop (0 : Nat)
                                             (wG
                                               p)))).le,
                                   ve :=
                                     (q
                                         (List.take (n.toNat - (0 : Nat))
                                           (List.drop (0 : Nat)
                                             (wG
                                               p)))).ve,
                                   mo :=
                                     (q
                                         (List.take (n.toNat - (0 : Nat))
                                           (List.drop (0 : Nat)
                                             (wG
                                               p)))).mo,
                                   st :=
                                     (q
                                         (List.take (n.toNat - (0 : Nat))
                                           (List.drop (0 : Nat)
                                             (wG
                                               p)))).st,
                                   po :=
                                     (q
                                         (List.take (n.toNat - (0 : Nat))
                                           (List.drop (0 : Nat)
                                             (wG
                                               p)))).po,
                                   pr :=
                                     (q
                                         (List.take (n.toNat - (0 : Nat))
                                           (List.drop (0 : Nat)
                                             (wG
                                               p)))).pr,
                                   de :=
                                     (q
                                         (List.take (n.toNat - (0 : Nat))
                                           (List.drop (0 : Nat)
                                             (wG
                                               p)))).de,
                                   di :=
                                     (q
                                         (List.take (n.toNat - (0 : Nat))
                                           (List.drop (0 : Nat)
                                             (wG
                                               p)))).di,
                                   ri :=
                                     (q
                                         (List.take (n.toNat - (0 : Nat))
                                           (List.drop (0 : Nat)
                                             (wG
                                               p)))).ri,
                                   rf :=
                                     (q
                                         (List.take (n.toNat - (0 : Nat))
                                           (List.drop (0 : Nat)
                                             (wG
                                               p)))).rf,
                                   og :=
                                     (q
                                         (List.take (n.toNat - (0 : Nat))
                                           (List.drop (0 : Nat)
                                             (wG
                                               p)))).og,
                                   rc :=
                                     (q
                                         (List.take (n.toNat - (0 : Nat))
                                           (List.drop (0 : Nat)
                                             (wG
                                               p)))).rc,
                                   xm :=
                                     (q
                                         (List.take (n.toNat - (0 : Nat))
                                           (List.drop (0 : Nat)
                                             (wG
                                               p)))).xm,
                                   n1 :=
                                     (q
                                         (List.take (n.toNat - (0 : Nat))
                                           (List.drop (0 : Nat)
                                             (wG
                                               p)))).n1,
                                   c1 :=
                                     (q
                                         (List.take (n.toNat - (0 : Nat))
                                           (List.drop (0 : Nat)
                                             (wG
                                               p)))).c1,
                                   z1 :=
                                     (q
                                         (List.take (n.toNat - (0 : Nat))
                                           (List.drop (0 : Nat)
                                             (wG
                                               p)))).z1,
                                   es :=
                                     (q
                                         (List.take (n.toNat - (0 : Nat))
                                           (List.drop (0 : Nat)
                                             (wG
                                               p)))).es,
                                   ha :=
                                     (q
                                         (List.take (n.toNat - (0 : Nat))
                                           (List.drop (0 : Nat)
                                             (wG
                                               p)))).ha,
                                   ky :=
                                     (q
                                         (List.take (n.toNat - (0 : Nat))
                                           (List.drop (0 : Nat)
                                             (wG
                                               p)))).ky,
                                   n2 :=
                                     (q
                                         (List.take (n.toNat - (0 : Nat))
                                           (List.drop (0 : Nat)
                                             (wG
                                               p)))).n2,
                                   c2 :=
                                     (q
                                         (List.take (n.toNat - (0 : Nat))
                                           (List.drop (0 : Nat)
                                             (wG
                                               p)))).c2,
                                   z2 :=
                                     (q
                                         (List.take (n.toNat - (0 : Nat))
                                           (List.drop (0 : Nat)
                                             (wG
                                               p)))).z2,
                                   su :=
                                     (q
                                         (List.take (n.toNat - (0 : Nat))
                                           (List.drop (0 : Nat)
                                             (wG
                                               p)))).su } then
                             some
                               (IV.bool
                                   (bif true then
                                     bif false then true
                                     else
                                       !sG
                                           p
                                           {
                                             le :=
                                               (q
                                                   (List.take (n.toNat - (0 : Nat))
                                                     (List.drop (0 : Nat)
                                                       (wG
                                                         p)))).le,
                                             ve :=
                                               (q
                                                   (List.take (n.toNat - (0 : Nat))
                                                     (List.drop (0 : Nat)
                                                       (wG
                                                         p)))).ve,
                                             mo :=
                                               (q
                                                   (List.take (n.toNat - (0 : Nat))
                                                     (List.drop (0 : Nat)
                                                       (wG
                                                         p)))).mo,
                                             st :=
                                               (q
                                                   (List.take (n.toNat - (0 : Nat))
                                                     (List.drop (0 : Nat)
                                                       (wG
                                                         p)))).st,
                                             po :=
                                               (q
                                                   (List.take (n.toNat - (0 : Nat))
                                                     (List.drop (0 : Nat)
                                                       (wG
                                                         p)))).po,
                                             pr :=
                                               (q
                                                   (List.take (n.toNat - (0 : Nat))
                                                     (List.drop (0 : Nat)
                                                       (wG
                                                         p)))).pr,
                                             de :=
                                               (q
                                                   (List.take (n.toNat - (0 : Nat))
                                                     (List.drop (0 : Nat)
                                                       (wG
                                                         p)))).de,
                                             di :=
                                               (q
                                                   (List.take (n.toNat - (0 : Nat))
                                                     (List.drop (0 : Nat)
                                                       (wG
                                                         p)))).di,
                                             ri :=
                                               (q
                                                   (List.take (n.toNat - (0 : Nat))
                                                     (List.drop (0 : Nat)
                                                       (wG
                                                         p)))).ri,
                                             rf :=
                                               (q
                                                   (List.take (n.toNat - (0 : Nat))
                                                     (List.drop (0 : Nat)
                                                       (wG
                                                         p)))).rf,
                                             og :=
                                               (q
                                                   (List.take (n.toNat - (0 : Nat))
                                                     (List.drop (0 : Nat)
                                                       (wG
                                                         p)))).og,
                                             rc :=
                                               (q
                                                   (List.take (n.toNat - (0 : Nat))
                                                     (List.drop (0 : Nat)
                                                       (wG
                                                         p)))).rc,
                                             xm :=
                                               (q
                                                   (List.take (n.toNat - (0 : Nat))
                                                     (List.drop (0 : Nat)
                                                       (wG
                                                         p)))).xm,
                                             n1 :=
                                               (q
                                                   (List.take (n.toNat - (0 : Nat))
                                                     (List.drop (0 : Nat)
                                                       (wG
                                                         p)))).n1,
                                             c1 :=
                                               (q
                                                   (List.take (n.toNat - (0 : Nat))
                                                     (List.drop (0 : Nat)
                                                       (wG
                                                         p)))).c1,
                                             z1 :=
                                               (q
                                                   (List.take (n.toNat - (0 : Nat))
                                                     (List.drop (0 : Nat)
                                                       (wG
                                                         p)))).z1,
                                             es :=
                                               (q
                                                   (List.take (n.toNat - (0 : Nat))
                                                     (List.drop (0 : Nat)
                                                       (wG
                                                         p)))).es,
                                             ha :=
                                               (q
                                                   (List.take (n.toNat - (0 : Nat))
                                                     (List.drop (0 : Nat)
                                                       (wG
                                                         p)))).ha,
                                             ky :=
                                               (q
                                                   (List.take (n.toNat - (0 : Nat))
                                                     (List.drop (0 : Nat)
                                                       (wG
                                                         p)))).ky,
                                             n2 :=
                                               (q
                                                   (List.take (n.toNat - (0 : Nat))
                                                     (List.drop (0 : Nat)
                                                       (wG
                                                         p)))).n2,
                                             c2 :=
                                               (q
                                                   (List.take (n.toNat - (0 : Nat))
                                                     (List.drop (0 : Nat)
                                                       (wG
                                                         p)))).c2,
                                             z2 :=
                                               (q
                                                   (List.take (n.toNat - (0 : Nat))
                                                     (List.drop (0 : Nat)
                                                       (wG
                                                         p)))).z2,
                                             su :=
                                               (q
                                                   (List.take (n.toNat - (0 : Nat))
                                                     (List.drop (0 : Nat)
                                                       (wG
                                                         p)))).su }
                                   else false),
                                 [])
                           else none
                         else
                           bif
                               true == true &&
                                 (fc
                                       (List.take (n.toNat - (0 : Nat))
                                         (List.drop (0 : Nat)
                                           (wG
                                             p))) !=
                                     (0 : Int)) ==
                                   false then
                             none
                           else
                             bif
                                 fc
                                     (List.take (n.toNat - (0 : Nat))
                                       (List.drop (0 : Nat)
                                         (wG
                                           p))) !=
                                   (0 : Int) then
                               some (IV.bool true, [])
                             else some (IV.tup [], [])
                     else none
                   else none
             else none
           else none
         else none
       else
         bif
             wC2
               p then
           some (IV.bool true, [])
         else none
   else none) := by kernel_rfl
theorem front_all (p : PK) (k : Int) (nl : Option Bool) (cl : Bool) (l : List IV) (hC : PK → Bool) (hG : PK → Bool) (wC1 wC2 : PK → Bool) (wG : PK → List IV) (rC : PK → Bool) (rG : PK → Int) (sC sG : PK → PK → Bool) (c : Nat → List IV → Bool) (q : List IV → PK) (fa fc : List IV → Int) (g : List IV → List IV) : Cb (lawTab2 hC hG wC1 wC2 wG rC rG sC sG c q fa fc g) (fun _ _ => none) 6 [p.iv, .int .u32 k, .fsl nl cl 1 l] [] =
  (bif
       hC
         p then
     bif
         hG
           p then
       some (IV.bool true, [])
     else
       bif
           wC1
             { le := p.le, ve := p.ve, mo := p.mo, st := p.st, po := p.po, pr := p.pr, de := p.de, di := p.di, ri := p.ri,
               rf := p.rf, og := p.og, rc := p.rc, xm := p.xm, n1 := p.n1, c1 := p.c1, z1 := p.z1, es := p.es, ha := false,
               ky := (0 : Int), n2 := some true, c2 := true, z2 := (0 : Nat), su := [] } then
         bif
             wC1
               { le := p.le, ve := p.ve, mo := p.mo, st := p.st, po := p.po, pr := p.pr, de := p.de, di := p.di,
                 ri := p.ri, rf := p.rf, og := p.og, rc := p.rc, xm := p.xm, n1 := p.n1, c1 := p.c1, z1 := p.z1,
                 es := p.es, ha := true, ky := k, n2 := nl, c2 := cl, z2 := (1 : Nat), su := l } then
           bif
               c (1 : Nat)
                 (wG
                   { le := p.le, ve := p.ve, mo := p.mo, st := p.st, po := p.po, pr := p.pr, de := p.de, di := p.di,
                     ri := p.ri, rf := p.rf, og := p.og, rc := p.rc, xm := p.xm, n1 := p.n1, c1 := p.c1, z1 := p.z1,
                     es := p.es, ha := true, ky := k, n2 := nl, c2 := cl, z2 := (1 : Nat), su := l }) then
             bif
                 decide
                     ((1 : Nat) = (1 : Nat) ∨
                       (g
                             (wG
                               { le := p.le, ve := p.ve, mo := p.mo, st := p.st, po := p.po, pr := p.pr, de := p.de,
                                 di := p.di, ri := p.ri, rf := p.rf, og := p.og, rc := p.rc, xm := p.xm, n1 := p.n1,
                                 c1 := p.c1, z1 := p.z1, es := p.es, ha := true, ky := k, n2 := nl, c2 := cl,
                                 z2 := (1 : Nat), su := l })).length =
                         (0 : Nat)) &&
                   isBytes
                     (g
                       (wG
                         { le := p.le, ve := p.ve, mo := p.mo, st := p.st, po := p.po, pr := p.pr, de := p.de, di := p.di,
                           ri := p.ri, rf := p.rf, og := p.og, rc := p.rc, xm := p.xm, n1 := p.n1, c1 := p.c1, z1 := p.z1,
                           es := p.es, ha := true, ky := k, n2 := nl, c2 := cl, z2 := (1 : Nat), su := l })) then
               bif
                   decide
                       ((1 : Nat) = (1 : Nat) ∨
                         (wG
                               { le := p.le, ve := p.ve, mo := p.mo, st := p.st, po := p.po, pr := p.pr, de := p.de,
                                 di := p.di, ri := p.ri, rf := p.rf, og := p.og, rc := p.rc, xm := p.xm, n1 := p.n1,
                                 c1 := p.c1, z1 := p.z1, es := p.es, ha := false, ky := (0 : Int), n2 := some true,
                                 c2 := true, z2 := (0 : Nat), su := [] }).length =
                           (0 : Nat)) &&
                     isBytes
                       (wG
                         { le := p.le, ve := p.ve, mo := p.mo, st := p.st, po := p.po, pr := p.pr, de := p.de, di := p.di,
                           ri := p.ri, rf := p.rf, og := p.og, rc := p.rc, xm := p.xm, n1 := p.n1, c1 := p.c1, z1 := p.z1,
                           es := p.es, ha := false, ky := (0 : Int), n2 := some true, c2 := true, z2 := (0 : Nat),
                           su := [] }) then
                 some
                   (IV.bool
                       (bif
                           bif
                               bif true then
                                 fc
                                     (wG
                                       { le := p.le, ve := p.ve, mo := p.mo, st := p.st, po := p.po, pr := p.pr,
                                         de := p.de, di := p.di, ri := p.ri, rf := p.rf, og := p.og, rc := p.rc,
                                         xm := p.xm, n1 := p.n1, c1 := p.c1, z1 := p.z1, es := p.es, ha := true, ky := k,
                                         n2 := nl, c2 := cl, z2 := (1 : Nat), su := l }) ==
                                   (0 : Int)
                               else false then
                             toBytes
                                 (g
                                   (wG
                                     { le := p.le, ve := p.ve, mo := p.mo, st := p.st, po := p.po, pr := p.pr, de := p.de,
                                       di := p.di, ri := p.ri, rf := p.rf, og := p.og, rc := p.rc, xm := p.xm, n1 := p.n1,
                                       c1 := p.c1, z1 := p.z1, es := p.es, ha := true, ky := k, n2 := nl, c2 := cl,
                                       z2 := (1 : Nat), su := l })) ==
                               toBytes
                                 (wG
                                   { le := p.le, ve := p.ve, mo := p.mo, st := p.st, po := p.po, pr := p.pr, de := p.de,
                                     di := p.di, ri := p.ri, rf := p.rf, og := p.og, rc := p.rc, xm := p.xm, n1 := p.n1,
                                     c1 := p.c1, z1 := p.z1, es := p.es, ha := false, ky := (0 : Int), n2 := some true,
                                     c2 := true, z2 := (0 : Nat), su := [] })
                           else false then
                         (↑(wG
                                   { le := p.le, ve := p.ve, mo := p.mo, st := p.st, po := p.po, pr := p.pr, de := p.de,
                                     di := p.di, ri := p.ri, rf := p.rf, og := p.og, rc := p.rc, xm := p.xm, n1 := p.n1,
                                     c1 := p.c1, z1 := p.z1, es := p.es, ha := true, ky := k, n2 := nl, c2 := cl,
                                     z2 := (1 : Nat), su := l }).length :
                             Int) ==
                           IntKind.i64.wrap
                             (IntKind.i64.wrap
                                 ((↑(wG
                                           { le := p.le, ve := p.ve, mo := p.mo, st := p.st, po := p.po, pr := p.pr,
                                             de := p.de, di := p.di, ri := p.ri, rf := p.rf, og := p.og, rc := p.rc,
                                             xm := p.xm, n1 := p.n1, c1 := p.c1, z1 := p.z1, es := p.es, ha := false,
                                             ky := (0 : Int), n2 := some true, c2 := true, z2 := (0 : Nat),
                                             su := [] }).length :
                                     Int) +
                                   (4 : Int)) +
                               (↑l.length : Int))
                       else false),
                     [])
               else none
             else none
           else none
         else
           bif
               wC2
                 { le := p.le, ve := p.ve, mo := p.mo, st := p.st, po := p.po, pr := p.pr, de := p.de, di := p.di,
                   ri := p.ri, rf := p.rf, og := p.og, rc := p.rc, xm := p.xm, n1 := p.n1, c1 := p.c1, z1 := p.z1,
                   es := p.es, ha := true, ky := k, n2 := nl, c2 := cl, z2 := (1 : Nat), su := l } then
             some
               (IV.bool
                   (bif true then
                     IntKind.i64.wrap
                         ((↑(0 : Nat) : Int) *
                           (↑(wG
                                   { le := p.le, ve := p.ve, mo := p.mo, st := p.st, po := p.po, pr := p.pr, de := p.de,
                                     di := p.di, ri := p.ri, rf := p.rf, og := p.og, rc := p.rc, xm := p.xm, n1 := p.n1,
                                     c1 := p.c1, z1 := p.z1, es := p.es, ha := false, ky := (0 : Int), n2 := some true,
                                     c2 := true, z2 := (0 : Nat), su := [] }).length :
                             Int)) ==
                       (0 : Int)
                   else false),
                 [])
           else none
       else
         bif
             wC2
               { le := p.le, ve := p.ve, mo := p.mo, st := p.st, po := p.po, pr := p.pr, de := p.de, di := p.di,
                 ri := p.ri, rf := p.rf, og := p.og, rc := p.rc, xm := p.xm, n1 := p.n1, c1 := p.c1, z1 := p.z1,
                 es := p.es, ha := false, ky := (0 : Int), n2 := some true, c2 := true, z2 := (0 : Nat), su := [] } then
           bif
               wC1
                 { le := p.le, ve := p.ve, mo := p.mo, st := p.st, po := p.po, pr := p.pr, de := p.de, di := p.di,
                   ri := p.ri, rf := p.rf, og := p.og, rc := p.rc, xm := p.xm, n1 := p.n1, c1 := p.c1, z1 := p.z1,
                   es := p.es, ha := true, ky := k, n2 := nl, c2 := cl, z2 := (1 : Nat), su := l } then
             some (IV.bool true, [])
           else
             bif
                 wC2
                   { le := p.le, ve := p.ve, mo := p.mo, st := p.st, po := p.po, pr := p.pr, de := p.de, di := p.di,
                     ri := p.ri, rf := p.rf, og := p.og, rc := p.rc, xm := p.xm, n1 := p.n1, c1 := p.c1, z1 := p.z1,
                     es := p.es, ha := true, ky := k, n2 := nl, c2 := cl, z2 := (1 : Nat), su := l } then
               some (IV.bool true, [])
             else none
         else none
   else none) := by kernel_rfl
end Go.Proofs.Ytphddjolipaejaa
