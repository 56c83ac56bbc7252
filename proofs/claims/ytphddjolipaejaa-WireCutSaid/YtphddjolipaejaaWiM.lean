/- The laws' common parts: what the given program does. It bears no condition. -/
import Derived.Test.YtphddjolipaejaaWiL
-- FOLDS WiC.src.lean
-- FOLD (cpPK ce cs $) <= { le := $.le, ve := $.ve, mo := $.mo, st := $.st, po := $.po, pr := $.pr, de := $.de, di := $.di, ri := $.ri, rf := $.rf, og := $.og, rc := $.rc, xm := $.xm, n1 := none, c1 := false, z1 := (8 : Nat), es := ce $, ha := $.ha, ky := $.ky, n2 := none, c2 := false, z2 := (1 : Nat), su := cs $ }
namespace Go.Proofs.Ytphddjolipaejaa
open Go Go.Im
set_option linter.unusedVariables false
set_option linter.unusedSimpArgs false
theorem cl1 (cl : Bool) (z : Nat) : C (tab []) 28 [.fsl (some true) cl z []] =
  (some (IV.fsl (some true) true (nat_lit 0) [], [])) := by kernel_rfl
theorem cl2 (cl : Bool) (z : Nat) (l : List IV) : C (tab []) 28 [.fsl (some false) cl z l] =
  (bif decide (z = (1 : Nat) ∨ l.length = (0 : Nat)) then
     bif decide (((0 : Nat) + l.length) * (1 : Nat) ≤ roomB ∧ (0 : Nat) + l.length ≤ maxLen) then
       some (IV.osl (nat_lit 0) (nat_lit 0), [Blk.row (nat_lit 0) false (nat_lit 1) l])
     else none
   else none) := by kernel_rfl
def cpPK (ce cs : PK → List IV) (p : PK) : PK := { p with n1 := none, c1 := false, z1 := 8, es := ce p, n2 := none, c2 := false, z2 := 1, su := cs p }
def cloneP (c : Nat → List IV → Bool) : SpecF := fun xs T => match xs, T with
  | [.fsl nl cl z l], [] => [(c z l, .fsl none false 1 l, [])]
  | _, _ => []
def cloneC (z : Nat) (l : List IV) : Bool := decide ((z = 1 ∨ l.length = 0) ∧ l.length ≤ 100000)
noncomputable abbrev lawTab (hC : PK → Bool) (hG : PK → Bool) (cC : PK → Bool) (ce cs : PK → List IV) (wC1 wC2 : PK → Bool) (wG : PK → List IV) (rC : PK → Bool) (rG : PK → Int) (sC sG : PK → PK → Bool) : FuncId → Option SpecF :=
  tab [(7, pkP hC fun p => .bool (hG p)), (8, constF (.bool true)), (9, cpP cC ce cs), (10, wrP wC1 wC2 wG), (11, wrP wC1 wC2 wG), (12, pkP rC fun p => .int .i64 (rG p)), (13, pkP rC fun p => .int .i64 (rG p)), (14, ppP sC sG)]
theorem writes_all (p : PK) (hC : PK → Bool) (hG : PK → Bool) (cC : PK → Bool) (ce cs : PK → List IV) (wC1 wC2 : PK → Bool) (wG : PK → List IV) (rC : PK → Bool) (rG : PK → Int) (sC sG : PK → PK → Bool) : Cb (lawTab hC hG cC ce cs wC1 wC2 wG rC rG sC sG) (fun _ _ => none) 3 [p.iv] [] =
  (bif
       hC
         p then
     bif
         hG
           p then
       some (IV.bool true, [])
     else
       bif
           cC
             p then
         bif
             wC1
               (cpPK ce cs p) then
           bif
               wC1
                 p then
             bif
                 rC
                   (cpPK ce cs p) then
               bif
                   rC
                     p then
                 bif
                     decide
                         ((1 : Nat) = (1 : Nat) ∨
                           (wG
                                 (cpPK ce cs p)).length =
                             (0 : Nat)) &&
                       isBytes
                         (wG
                           (cpPK ce cs p)) then
                   bif
                       decide
                           ((1 : Nat) = (1 : Nat) ∨
                             (wG
                                   p).length =
                               (0 : Nat)) &&
                         isBytes
                           (wG
                             p) then
                     bif
                         (bif
                               bif
                                   bif true then
                                     rG
                                         (cpPK ce cs p) ==
                                       rG
                                         p
                                   else false then
                                 toBytes
                                     (wG
                                       (cpPK ce cs p)) ==
                                   toBytes
                                     (wG
                                       p)
                               else false then
                             (0 : Int) == (0 : Int)
                           else false) ==
                           true then
                       bif
                           sC
                             (cpPK ce cs p)
                             p then
                         some
                           (IV.bool
                               (bif true then
                                 sG
                                   (cpPK ce cs p)
                                   p
                               else false),
                             [])
                       else none
                     else some (IV.bool false, [])
                   else none
                 else none
               else none
             else none
           else
             bif
                 wC2
                   p then
               bif
                   rC
                     (cpPK ce cs p) then
                 bif
                     rC
                       p then
                   bif
                       decide
                           ((1 : Nat) = (1 : Nat) ∨
                             (wG
                                   (cpPK ce cs p)).length =
                               (0 : Nat)) &&
                         isBytes
                           (wG
                             (cpPK ce cs p)) then
                     bif
                         (bif
                               bif
                                   bif true then
                                     rG
                                         (cpPK ce cs p) ==
                                       rG
                                         p
                                   else false then
                                 toBytes
                                     (wG
                                       (cpPK ce cs p)) ==
                                   toBytes []
                               else false then
                             (0 : Int) == (3 : Int)
                           else false) ==
                           true then
                       bif
                           sC
                             (cpPK ce cs p)
                             p then
                         some
                           (IV.bool
                               (bif true then
                                 sG
                                   (cpPK ce cs p)
                                   p
                               else false),
                             [])
                       else none
                     else some (IV.bool false, [])
                   else none
                 else none
               else none
             else none
         else
           bif
               wC2
                 (cpPK ce cs p) then
             bif
                 wC1
                   p then
               bif
                   rC
                     (cpPK ce cs p) then
                 bif
                     rC
                       p then
                   bif
                       decide
                           ((1 : Nat) = (1 : Nat) ∨
                             (wG
                                   p).length =
                               (0 : Nat)) &&
                         isBytes
                           (wG
                             p) then
                     bif
                         (bif
                               bif
                                   bif true then
                                     rG
                                         (cpPK ce cs p) ==
                                       rG
                                         p
                                   else false then
                                 toBytes [] ==
                                   toBytes
                                     (wG
                                       p)
                               else false then
                             (3 : Int) == (0 : Int)
                           else false) ==
                           true then
                       bif
                           sC
                             (cpPK ce cs p)
                             p then
                         some
                           (IV.bool
                               (bif true then
                                 sG
                                   (cpPK ce cs p)
                                   p
                               else false),
                             [])
                       else none
                     else some (IV.bool false, [])
                   else none
                 else none
               else none
             else
               bif
                   wC2
                     p then
                 bif
                     rC
                       (cpPK ce cs p) then
                   bif
                       rC
                         p then
                     bif
                         (bif
                               bif
                                   bif true then
                                     rG
                                         (cpPK ce cs p) ==
                                       rG
                                         p
                                   else false then
                                 toBytes [] == toBytes []
                               else false then
                             (3 : Int) == (3 : Int)
                           else false) ==
                           true then
                       bif
                           sC
                             (cpPK ce cs p)
                             p then
                         some
                           (IV.bool
                               (bif true then
                                 sG
                                   (cpPK ce cs p)
                                   p
                               else false),
                             [])
                       else none
                     else some (IV.bool false, [])
                   else none
                 else none
               else none
           else none
       else none
   else none) := by kernel_rfl
end Go.Proofs.Ytphddjolipaejaa
