/- DerInside: what is done. It bears no condition. -/
import Derived.Test.YtolpgbgmldpneaaDsC
namespace Go.Proofs.Ytolpgbgmldpneaa
open Go Go.Im
set_option linter.unusedVariables false
set_option linter.unusedSimpArgs false
set_option maxRecDepth 20000
-- FOLD ndV t n1 c1 z1 bs n2 c2 z2 ks <= IV.agg [IV.int IntKind.i64 t, IV.fsl n1 c1 z1 bs, IV.fsl n2 c2 z2 ks]
-- FOLD ndV t' n1' c1' z1' bs' n2' c2' z2' ks' <= IV.agg [IV.int IntKind.i64 t', IV.fsl n1' c1' z1' bs', IV.fsl n2' c2' z2' ks']
-- FOLD (boV (ndV t n1 c1 z1 bs n2 c2 z2 ks) (ndV t' n1' c1' z1' bs' n2' c2' z2' ks')) <= (ndV (48 : Int) (some true) true (0 : Nat) [] none false (3 : Nat) [ndV t n1 c1 z1 bs n2 c2 z2 ks, ndV t' n1' c1' z1' bs' n2' c2' z2' ks'])
def boV (x y : IV) : IV := ndV 48 (some true) true 0 [] none false 3 [x, y]
abbrev tabI (ch gh : IV → Bool) (cw : IV → Bool) (gw : IV → List IV) (ge : IV → Int) (cr gr : IV → Bool) (cs gs : IV → IV → Bool) : FuncId → Option SpecF := tab [(9, welP ch gh), (10, constF (.bool true)), (12, wrP cw gw ge), (14, welP cr gr), (16, ltP cs gs)]
theorem di_tree (ch gh : IV → Bool) (cw : IV → Bool) (gw : IV → List IV) (ge : IV → Int) (cr gr : IV → Bool) (cs gs : IV → IV → Bool) (t : Int) (n1 : Option Bool) (c1 : Bool) (z1 : Nat) (bs : List IV) (n2 : Option Bool) (c2 : Bool) (z2 : Nat) (ks : List IV) (t' : Int) (n1' : Option Bool) (c1' : Bool) (z1' : Nat) (bs' : List IV) (n2' : Option Bool) (c2' : Bool) (z2' : Nat) (ks' : List IV) : C (tabI ch gh cw gw ge cr gr cs gs) 6 [.agg [.int .i64 t, .fsl n1 c1 z1 bs, .fsl n2 c2 z2 ks], .agg [.int .i64 t', .fsl n1' c1' z1' bs', .fsl n2' c2' z2' ks']] =
  (bif ch (ndV t n1 c1 z1 bs n2 c2 z2 ks) then
     bif gh (ndV t n1 c1 z1 bs n2 c2 z2 ks) == false then
       bif ch (ndV t' n1' c1' z1' bs' n2' c2' z2' ks') then
         bif (bif false then true else gh (ndV t' n1' c1' z1' bs' n2' c2' z2' ks')) == false then
           bif cr (ndV t n1 c1 z1 bs n2 c2 z2 ks) then
             bif (bif false then true else !gr (ndV t n1 c1 z1 bs n2 c2 z2 ks)) == false then
               bif cr (ndV t' n1' c1' z1' bs' n2' c2' z2' ks') then
                 bif bif false then true else !gr (ndV t' n1' c1' z1' bs' n2' c2' z2' ks') then some (IV.bool true, [])
                 else
                   bif cw (ndV t n1 c1 z1 bs n2 c2 z2 ks) then
                     bif cw (ndV t' n1' c1' z1' bs' n2' c2' z2' ks') then
                       bif
                           cw
                             (boV (ndV t n1 c1 z1 bs n2 c2 z2 ks) (ndV t' n1' c1' z1' bs' n2' c2' z2' ks')) then
                         bif
                             bif
                                 bif ge (ndV t n1 c1 z1 bs n2 c2 z2 ks) != (0 : Int) then true
                                 else ge (ndV t' n1' c1' z1' bs' n2' c2' z2' ks') != (0 : Int) then
                               true
                             else
                               ge
                                   (boV (ndV t n1 c1 z1 bs n2 c2 z2 ks) (ndV t' n1' c1' z1' bs' n2' c2' z2' ks')) !=
                                 (0 : Int) then
                           some
                             (IV.bool
                                 (bif true then
                                   bif
                                       bif
                                           bif ge (ndV t n1 c1 z1 bs n2 c2 z2 ks) == (2 : Int) then true
                                           else ge (ndV t' n1' c1' z1' bs' n2' c2' z2' ks') == (2 : Int) then
                                         true
                                       else
                                         ge
                                             (boV (ndV t n1 c1 z1 bs n2 c2 z2 ks) (ndV t' n1' c1' z1' bs' n2' c2' z2' ks')) ==
                                           (2 : Int) then
                                     true
                                   else
                                     ge
                                         (boV (ndV t n1 c1 z1 bs n2 c2 z2 ks) (ndV t' n1' c1' z1' bs' n2' c2' z2' ks')) ==
                                       (3 : Int)
                                 else false),
                               [])
                         else
                           bif
                               decide
                                   ((↑(gw
                                             (boV (ndV t n1 c1 z1 bs n2 c2 z2 ks) (ndV t' n1' c1' z1' bs' n2' c2' z2' ks'))).length :
                                       Int) <
                                     IntKind.i64.wrap
                                       (IntKind.i64.wrap
                                           ((↑(gw (ndV t n1 c1 z1 bs n2 c2 z2 ks)).length : Int) +
                                             (↑(gw (ndV t' n1' c1' z1' bs' n2' c2' z2' ks')).length : Int)) +
                                         (2 : Int))) ==
                                 false then
                             bif
                                 decide
                                   ((0 : Int) ≤
                                       IntKind.i64.wrap
                                         ((↑(gw
                                                   (boV (ndV t n1 c1 z1 bs n2 c2 z2 ks) (ndV t' n1' c1' z1' bs' n2' c2' z2' ks'))).length :
                                             Int) -
                                           (↑(gw (ndV t' n1' c1' z1' bs' n2' c2' z2' ks')).length : Int)) ∧
                                     IntKind.i64.wrap
                                           ((↑(gw
                                                     (boV (ndV t n1 c1 z1 bs n2 c2 z2 ks) (ndV t' n1' c1' z1' bs' n2' c2' z2' ks'))).length :
                                               Int) -
                                             (↑(gw (ndV t' n1' c1' z1' bs' n2' c2' z2' ks')).length : Int)) ≤
                                         (↑(gw
                                                 (boV (ndV t n1 c1 z1 bs n2 c2 z2 ks) (ndV t' n1' c1' z1' bs' n2' c2' z2' ks'))).length :
                                           Int) ∧
                                       (↑(gw
                                                 (boV (ndV t n1 c1 z1 bs n2 c2 z2 ks) (ndV t' n1' c1' z1' bs' n2' c2' z2' ks'))).length :
                                           Int) ≤
                                         (↑(gw
                                                 (boV (ndV t n1 c1 z1 bs n2 c2 z2 ks) (ndV t' n1' c1' z1' bs' n2' c2' z2' ks'))).length :
                                           Int)) then
                               bif
                                   decide
                                       ((1 : Nat) = (1 : Nat) ∨
                                         (List.take
                                               ((↑(gw
                                                           (boV (ndV t n1 c1 z1 bs n2 c2 z2 ks) (ndV t' n1' c1' z1' bs' n2' c2' z2' ks'))).length :
                                                     Int).toNat -
                                                 (IntKind.i64.wrap
                                                     ((↑(gw
                                                               (boV (ndV t n1 c1 z1 bs n2 c2 z2 ks) (ndV t' n1' c1' z1' bs' n2' c2' z2' ks'))).length :
                                                         Int) -
                                                       (↑(gw (ndV t' n1' c1' z1' bs' n2' c2' z2' ks')).length :
                                                         Int))).toNat)
                                               (List.drop
                                                 (IntKind.i64.wrap
                                                     ((↑(gw
                                                               (boV (ndV t n1 c1 z1 bs n2 c2 z2 ks) (ndV t' n1' c1' z1' bs' n2' c2' z2' ks'))).length :
                                                         Int) -
                                                       (↑(gw (ndV t' n1' c1' z1' bs' n2' c2' z2' ks')).length :
                                                         Int))).toNat
                                                 (gw
                                                   (boV (ndV t n1 c1 z1 bs n2 c2 z2 ks) (ndV t' n1' c1' z1' bs' n2' c2' z2' ks'))))).length =
                                           (0 : Nat)) &&
                                     isBytes
                                       (List.take
                                         ((↑(gw
                                                     (boV (ndV t n1 c1 z1 bs n2 c2 z2 ks) (ndV t' n1' c1' z1' bs' n2' c2' z2' ks'))).length :
                                               Int).toNat -
                                           (IntKind.i64.wrap
                                               ((↑(gw
                                                         (boV (ndV t n1 c1 z1 bs n2 c2 z2 ks) (ndV t' n1' c1' z1' bs' n2' c2' z2' ks'))).length :
                                                   Int) -
                                                 (↑(gw (ndV t' n1' c1' z1' bs' n2' c2' z2' ks')).length : Int))).toNat)
                                         (List.drop
                                           (IntKind.i64.wrap
                                               ((↑(gw
                                                         (boV (ndV t n1 c1 z1 bs n2 c2 z2 ks) (ndV t' n1' c1' z1' bs' n2' c2' z2' ks'))).length :
                                                   Int) -
                                                 (↑(gw (ndV t' n1' c1' z1' bs' n2' c2' z2' ks')).length : Int))).toNat
                                           (gw
                                             (boV (ndV t n1 c1 z1 bs n2 c2 z2 ks) (ndV t' n1' c1' z1' bs' n2' c2' z2' ks'))))) then
                                 bif
                                     decide
                                         ((1 : Nat) = (1 : Nat) ∨
                                           (gw (ndV t' n1' c1' z1' bs' n2' c2' z2' ks')).length = (0 : Nat)) &&
                                       isBytes (gw (ndV t' n1' c1' z1' bs' n2' c2' z2' ks')) then
                                   bif
                                       (bif false then true
                                         else
                                           !toBytes
                                                 (List.take
                                                   ((↑(gw
                                                               (boV (ndV t n1 c1 z1 bs n2 c2 z2 ks) (ndV t' n1' c1' z1' bs' n2' c2' z2' ks'))).length :
                                                         Int).toNat -
                                                     (IntKind.i64.wrap
                                                         ((↑(gw
                                                                   (boV (ndV t n1 c1 z1 bs n2 c2 z2 ks) (ndV t' n1' c1' z1' bs' n2' c2' z2' ks'))).length :
                                                             Int) -
                                                           (↑(gw (ndV t' n1' c1' z1' bs' n2' c2' z2' ks')).length :
                                                             Int))).toNat)
                                                   (List.drop
                                                     (IntKind.i64.wrap
                                                         ((↑(gw
                                                                   (boV (ndV t n1 c1 z1 bs n2 c2 z2 ks) (ndV t' n1' c1' z1' bs' n2' c2' z2' ks'))).length :
                                                             Int) -
                                                           (↑(gw (ndV t' n1' c1' z1' bs' n2' c2' z2' ks')).length :
                                                             Int))).toNat
                                                     (gw
                                                       (boV (ndV t n1 c1 z1 bs n2 c2 z2 ks) (ndV t' n1' c1' z1' bs' n2' c2' z2' ks'))))) ==
                                               toBytes (gw (ndV t' n1' c1' z1' bs' n2' c2' z2' ks'))) ==
                                         false then
                                     bif
                                         decide
                                           ((0 : Int) ≤
                                               IntKind.i64.wrap
                                                 (IntKind.i64.wrap
                                                     ((↑(gw
                                                               (boV (ndV t n1 c1 z1 bs n2 c2 z2 ks) (ndV t' n1' c1' z1' bs' n2' c2' z2' ks'))).length :
                                                         Int) -
                                                       (↑(gw (ndV t' n1' c1' z1' bs' n2' c2' z2' ks')).length : Int)) -
                                                   (↑(gw (ndV t n1 c1 z1 bs n2 c2 z2 ks)).length : Int)) ∧
                                             IntKind.i64.wrap
                                                   (IntKind.i64.wrap
                                                       ((↑(gw
                                                                 (boV (ndV t n1 c1 z1 bs n2 c2 z2 ks) (ndV t' n1' c1' z1' bs' n2' c2' z2' ks'))).length :
                                                           Int) -
                                                         (↑(gw (ndV t' n1' c1' z1' bs' n2' c2' z2' ks')).length : Int)) -
                                                     (↑(gw (ndV t n1 c1 z1 bs n2 c2 z2 ks)).length : Int)) ≤
                                                 IntKind.i64.wrap
                                                   ((↑(gw
                                                             (boV (ndV t n1 c1 z1 bs n2 c2 z2 ks) (ndV t' n1' c1' z1' bs' n2' c2' z2' ks'))).length :
                                                       Int) -
                                                     (↑(gw (ndV t' n1' c1' z1' bs' n2' c2' z2' ks')).length : Int)) ∧
                                               IntKind.i64.wrap
                                                   ((↑(gw
                                                             (boV (ndV t n1 c1 z1 bs n2 c2 z2 ks) (ndV t' n1' c1' z1' bs' n2' c2' z2' ks'))).length :
                                                       Int) -
                                                     (↑(gw (ndV t' n1' c1' z1' bs' n2' c2' z2' ks')).length : Int)) ≤
                                                 (↑(gw
                                                         (boV (ndV t n1 c1 z1 bs n2 c2 z2 ks) (ndV t' n1' c1' z1' bs' n2' c2' z2' ks'))).length :
                                                   Int)) then
                                       bif
                                           decide
                                               ((1 : Nat) = (1 : Nat) ∨
                                                 (List.take
                                                       ((IntKind.i64.wrap
                                                             ((↑(gw
                                                                       (boV (ndV t n1 c1 z1 bs n2 c2 z2 ks) (ndV t' n1' c1' z1' bs' n2' c2' z2' ks'))).length :
                                                                 Int) -
                                                               (↑(gw (ndV t' n1' c1' z1' bs' n2' c2' z2' ks')).length :
                                                                 Int))).toNat -
                                                         (IntKind.i64.wrap
                                                             (IntKind.i64.wrap
                                                                 ((↑(gw
                                                                           (boV (ndV t n1 c1 z1 bs n2 c2 z2 ks) (ndV t' n1' c1' z1' bs' n2' c2' z2' ks'))).length :
                                                                     Int) -
                                                                   (↑(gw (ndV t' n1' c1' z1' bs' n2' c2' z2' ks')).length :
                                                                     Int)) -
                                                               (↑(gw (ndV t n1 c1 z1 bs n2 c2 z2 ks)).length :
                                                                 Int))).toNat)
                                                       (List.drop
                                                         (IntKind.i64.wrap
                                                             (IntKind.i64.wrap
                                                                 ((↑(gw
                                                                           (boV (ndV t n1 c1 z1 bs n2 c2 z2 ks) (ndV t' n1' c1' z1' bs' n2' c2' z2' ks'))).length :
                                                                     Int) -
                                                                   (↑(gw (ndV t' n1' c1' z1' bs' n2' c2' z2' ks')).length :
                                                                     Int)) -
                                                               (↑(gw (ndV t n1 c1 z1 bs n2 c2 z2 ks)).length : Int))).toNat
                                                         (gw
                                                           (boV (ndV t n1 c1 z1 bs n2 c2 z2 ks) (ndV t' n1' c1' z1' bs' n2' c2' z2' ks'))))).length =
                                                   (0 : Nat)) &&
                                             isBytes
                                               (List.take
                                                 ((IntKind.i64.wrap
                                                       ((↑(gw
                                                                 (boV (ndV t n1 c1 z1 bs n2 c2 z2 ks) (ndV t' n1' c1' z1' bs' n2' c2' z2' ks'))).length :
                                                           Int) -
                                                         (↑(gw (ndV t' n1' c1' z1' bs' n2' c2' z2' ks')).length :
                                                           Int))).toNat -
                                                   (IntKind.i64.wrap
                                                       (IntKind.i64.wrap
                                                           ((↑(gw
                                                                     (boV (ndV t n1 c1 z1 bs n2 c2 z2 ks) (ndV t' n1' c1' z1' bs' n2' c2' z2' ks'))).length :
                                                               Int) -
                                                             (↑(gw (ndV t' n1' c1' z1' bs' n2' c2' z2' ks')).length :
                                                               Int)) -
                                                         (↑(gw (ndV t n1 c1 z1 bs n2 c2 z2 ks)).length : Int))).toNat)
                                                 (List.drop
                                                   (IntKind.i64.wrap
                                                       (IntKind.i64.wrap
                                                           ((↑(gw
                                                                     (boV (ndV t n1 c1 z1 bs n2 c2 z2 ks) (ndV t' n1' c1' z1' bs' n2' c2' z2' ks'))).length :
                                                               Int) -
                                                             (↑(gw (ndV t' n1' c1' z1' bs' n2' c2' z2' ks')).length :
                                                               Int)) -
                                                         (↑(gw (ndV t n1 c1 z1 bs n2 c2 z2 ks)).length : Int))).toNat
                                                   (gw
                                                     (boV (ndV t n1 c1 z1 bs n2 c2 z2 ks) (ndV t' n1' c1' z1' bs' n2' c2' z2' ks'))))) then
                                         bif
                                             decide
                                                 ((1 : Nat) = (1 : Nat) ∨
                                                   (gw (ndV t n1 c1 z1 bs n2 c2 z2 ks)).length = (0 : Nat)) &&
                                               isBytes (gw (ndV t n1 c1 z1 bs n2 c2 z2 ks)) then
                                           bif
                                               bif false then true
                                               else
                                                 !toBytes
                                                       (List.take
                                                         ((IntKind.i64.wrap
                                                               ((↑(gw
                                                                         (boV (ndV t n1 c1 z1 bs n2 c2 z2 ks) (ndV t' n1' c1' z1' bs' n2' c2' z2' ks'))).length :
                                                                   Int) -
                                                                 (↑(gw (ndV t' n1' c1' z1' bs' n2' c2' z2' ks')).length :
                                                                   Int))).toNat -
                                                           (IntKind.i64.wrap
                                                               (IntKind.i64.wrap
                                                                   ((↑(gw
                                                                             (boV (ndV t n1 c1 z1 bs n2 c2 z2 ks) (ndV t' n1' c1' z1' bs' n2' c2' z2' ks'))).length :
                                                                       Int) -
                                                                     (↑(gw
                                                                             (ndV t' n1' c1' z1' bs' n2' c2' z2'
                                                                               ks')).length :
                                                                       Int)) -
                                                                 (↑(gw (ndV t n1 c1 z1 bs n2 c2 z2 ks)).length :
                                                                   Int))).toNat)
                                                         (List.drop
                                                           (IntKind.i64.wrap
                                                               (IntKind.i64.wrap
                                                                   ((↑(gw
                                                                             (boV (ndV t n1 c1 z1 bs n2 c2 z2 ks) (ndV t' n1' c1' z1' bs' n2' c2' z2' ks'))).length :
                                                                       Int) -
                                                                     (↑(gw
                                                                             (ndV t' n1' c1' z1' bs' n2' c2' z2'
                                                                               ks')).length :
                                                                       Int)) -
                                                                 (↑(gw (ndV t n1 c1 z1 bs n2 c2 z2 ks)).length :
                                                                   Int))).toNat
                                                           (gw
                                                             (boV (ndV t n1 c1 z1 bs n2 c2 z2 ks) (ndV t' n1' c1' z1' bs' n2' c2' z2' ks'))))) ==
                                                     toBytes (gw (ndV t n1 c1 z1 bs n2 c2 z2 ks)) then
                                             some (IV.bool false, [])
                                           else
                                             bif
                                                 decide
                                                     ((1 : Nat) = (1 : Nat) ∨
                                                       (gw (ndV t n1 c1 z1 bs n2 c2 z2 ks)).length = (0 : Nat)) &&
                                                   isBytes (gw (ndV t n1 c1 z1 bs n2 c2 z2 ks)) then
                                               bif
                                                   decide
                                                       ((1 : Nat) = (1 : Nat) ∨
                                                         (gw (ndV t' n1' c1' z1' bs' n2' c2' z2' ks')).length =
                                                           (0 : Nat)) &&
                                                     isBytes (gw (ndV t' n1' c1' z1' bs' n2' c2' z2' ks')) then
                                                 bif
                                                     cs (ndV t n1 c1 z1 bs n2 c2 z2 ks)
                                                       (ndV t' n1' c1' z1' bs' n2' c2' z2' ks') then
                                                   some
                                                     (IV.bool
                                                         (bif true then
                                                           (toBytes (gw (ndV t n1 c1 z1 bs n2 c2 z2 ks)) ==
                                                               toBytes (gw (ndV t' n1' c1' z1' bs' n2' c2' z2' ks'))) ==
                                                             gs (ndV t n1 c1 z1 bs n2 c2 z2 ks)
                                                               (ndV t' n1' c1' z1' bs' n2' c2' z2' ks')
                                                         else false),
                                                       [])
                                                 else none
                                               else none
                                             else none
                                         else none
                                       else none
                                     else none
                                   else
                                     bif
                                         decide
                                             ((1 : Nat) = (1 : Nat) ∨
                                               (gw (ndV t n1 c1 z1 bs n2 c2 z2 ks)).length = (0 : Nat)) &&
                                           isBytes (gw (ndV t n1 c1 z1 bs n2 c2 z2 ks)) then
                                       some (IV.bool false, [])
                                     else none
                                 else none
                               else none
                             else none
                           else
                             bif
                                 decide
                                     ((1 : Nat) = (1 : Nat) ∨
                                       (gw (ndV t' n1' c1' z1' bs' n2' c2' z2' ks')).length = (0 : Nat)) &&
                                   isBytes (gw (ndV t' n1' c1' z1' bs' n2' c2' z2' ks')) then
                               bif
                                   decide
                                       ((1 : Nat) = (1 : Nat) ∨ (gw (ndV t n1 c1 z1 bs n2 c2 z2 ks)).length = (0 : Nat)) &&
                                     isBytes (gw (ndV t n1 c1 z1 bs n2 c2 z2 ks)) then
                                 some (IV.bool false, [])
                               else none
                             else none
                       else none
                     else none
                   else none
               else none
             else some (IV.bool true, [])
           else none
         else some (IV.bool true, [])
       else none
     else some (IV.bool true, [])
   else none) := by kernel_rfl
end Go.Proofs.Ytolpgbgmldpneaa
