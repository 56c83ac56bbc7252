/- Thefts, and what is said of a log: what the given program does. It bears no condition. -/
import Derived.Test.YtgbddcdpbgaojaaBaB
-- BYTES bytsBc
-- FOLDS AwC.src.lean
-- SUB (b0 : Bool)  => 
-- SUB (b1 : Bool)  => 
-- SUB (b1 : Bool) => 
-- SUB (b2 : Bool)  => 
-- SUB (b2 : Bool) => 
-- SUB (b3 : Bool)  => 
-- SUB (b3 : Bool) => 
-- SUB (b4 : Bool)  => 
-- SUB (b4 : Bool) => 
-- SUB (b5 : Bool)  => 
-- SUB (b5 : Bool) => 
-- SUB cstF b0 => oneF (ixV fs 0 0) [.var false (evC (nthD l told.toNat))]
-- SUB bif b0 then => bif sameS (ixV fs 0 0) [.var false (evC (nthD l told.toNat))] then
-- SUB cstF b1 => oneF (thV 0 0 nilT (-1) (tk l told) 0) [.var false (evC (nthD l told.toNat))]
-- SUB bif b1 then => bif sameS (thV 0 0 nilT (-1) (tk l told) 0) [.var false (evC (nthD l told.toNat))] then
-- SUB cstF b2 => oneF (thV 0 0 (fcT (nthD fs ix.toNat)) ix (tk l told) 0) [.var false (evC (nthD l told.toNat))]
-- SUB bif b2 then => bif sameS (thV 0 0 (fcT (nthD fs ix.toNat)) ix (tk l told) 0) [.var false (evC (nthD l told.toNat))] then
-- SUB cstF b3 => oneF (faV nl cl fs 0) [.row 0 false 2 []]
-- SUB bif b3 then => bif sameS (faV nl cl fs 0) [.row 0 false 2 []] then
-- SUB cstF b4 => oneF (juV nl cl l nl' cl' fs (gm l) 0) [.row 0 false 3 []]
-- SUB bif b4 then => bif sameS (juV nl cl l nl' cl' fs (gm l) 0) [.row 0 false 3 []] then
-- SUB cstF b5 => oneF (beV false (gj (go (List.take (n.toNat - 0) (List.drop 0 l))) (gf fs)) (gj (go l) (gf fs)) 0) []
-- SUB bif b5 then => bif sameS (beV false (gj (go (List.take (n.toNat - 0) (List.drop 0 l))) (gf fs)) (gj (go l) (gf fs)) 0) [] then
namespace Go.Proofs.Ytgbddcdpbgaojaa
open Go Go.Im
-- finished by fixBaC.py
set_option linter.unusedVariables false
set_option linter.unusedSimpArgs false
def evC (x : IV) : List IV := [.int .i64 (intOf (nthD x.cells 0)), .int .u32 (intOf (nthD x.cells 1)), .int .u32 (intOf (nthD x.cells 2)), .int .i64 (intOf (nthD x.cells 3)), .fsl (nlOf (nthD x.cells 4)) (clOf (nthD x.cells 4)) (szOf (nthD x.cells 4)) (rowL (nthD x.cells 4))]
def fcT (x : IV) : IV := .fsl (nlOf (nthD (x.cells.drop 1) 0)) (clOf (nthD (x.cells.drop 1) 0)) (szOf (nthD (x.cells.drop 1) 0)) (rowL (nthD (x.cells.drop 1) 0))
abbrev ixV (fs : List IV) (r i : Int) : List IV := [.fsl none false 2 fs, .fn 25 [.ptr 0 0], .int .i64 r, .int .i64 (fs.length : Int), .int .i64 i]
abbrev thV (r e : Int) (tx : IV) (ix : Int) (l : List IV) (i : Int) : List IV := [.int .i64 r, .int .i64 e, .ptr 0 0, tx, .int .i64 ix, .fsl none false 5 l, .int .i64 (l.length : Int), .int .i64 i]
noncomputable def difS (vs vs' : List IV) (bx : List Blk) : Bool := @decide (vs = vs' ∧ bx = bx) (Classical.propDecidable _)
def nilT : IV := .fsl (some true) true 0 []
abbrev tk (l : List IV) (n : Int) : List IV := List.take (n.toNat - 0) (List.drop 0 l)
theorem ix_in (c : Nat → List IV → Nat → List IV → Bool) (g : List IV → List IV → Bool → Bool) (k h p a : Int) (nl : Option Bool) (cl : Bool) (z : Nat) (b : List IV) (fs : List IV) (i : Int) : Rd (tab [(26, stP c g)]) 1 24 26 (Sx 24 (ixV fs 0 i) [.var false [.int .i64 k, .int .u32 h, .int .u32 p, .int .i64 a, .fsl nl cl z b]]) =
  (bif decide (i < (↑fs.length : Int)) then
     bif decide ((2 : Nat) = (2 : Nat) ∧ (0 : Int) ≤ i ∧ i < (↑fs.length : Int)) then
       bif testAll ([LT.i IntKind.u32] ++ ([LT.sl] ++ [])) (0 : Nat) (nthD fs i.toNat).cells then
         bif intOf (nthD (nthD fs i.toNat).cells (0 : Nat)) == h then
           some
             (Ex.ret,
               Sx (24 : Nat)
                 [IV.fsl none false (nat_lit 2) fs, IV.fn (nat_lit 25) [IV.ptr (nat_lit 0) (nat_lit 0)],
                   IV.int IntKind.i64 i, IV.int IntKind.i64 (↑fs.length : Int), IV.int IntKind.i64 i]
                 [Blk.var false
                     [IV.int IntKind.i64 k, IV.int IntKind.u32 h, IV.int IntKind.u32 p, IV.int IntKind.i64 a,
                       IV.fsl nl cl z b]])
         else
           some
             (Ex.normal,
               Sx (24 : Nat)
                 [IV.fsl none false (nat_lit 2) fs, IV.fn (nat_lit 25) [IV.ptr (nat_lit 0) (nat_lit 0)],
                   IV.int IntKind.i64 (0 : Int), IV.int IntKind.i64 (↑fs.length : Int),
                   IV.int IntKind.i64 (IntKind.i64.wrap (i + (1 : Int)))]
                 [Blk.var false
                     [IV.int IntKind.i64 k, IV.int IntKind.u32 h, IV.int IntKind.u32 p, IV.int IntKind.i64 a,
                       IV.fsl nl cl z b]])
       else none
     else none
   else
     some
       (Ex.exit (nat_lit 0),
         Sx (24 : Nat)
           [IV.fsl none false (nat_lit 2) fs, IV.fn (nat_lit 25) [IV.ptr (nat_lit 0) (nat_lit 0)],
             IV.int IntKind.i64 (0 : Int), IV.int IntKind.i64 (↑fs.length : Int), IV.int IntKind.i64 i]
           [Blk.var false
               [IV.int IntKind.i64 k, IV.int IntKind.u32 h, IV.int IntKind.u32 p, IV.int IntKind.i64 a, IV.fsl nl cl z b]])) := by kernel_rfl
theorem th_in (c : Nat → List IV → Nat → List IV → Bool) (g : List IV → List IV → Bool → Bool) (k h p a : Int) (nl : Option Bool) (cl : Bool) (z : Nat) (b : List IV) (nl' : Option Bool) (cl' : Bool) (z' : Nat) (x : List IV) (ix i : Int) (l : List IV) : Rd (tab [(26, stP c g)]) 0 14 1018 (Sx 14 (thV 0 0 (.fsl nl' cl' z' x) ix l i) [.var false [.int .i64 k, .int .u32 h, .int .u32 p, .int .i64 a, .fsl nl cl z b]]) =
  (bif decide (i < (↑l.length : Int)) then
     bif decide ((5 : Nat) = (5 : Nat) ∧ (0 : Int) ≤ i ∧ i < (↑l.length : Int)) then
       bif
           testAll
             ([LT.i IntKind.i64] ++
               ([LT.i IntKind.u32] ++ ([LT.i IntKind.u32] ++ ([LT.i IntKind.i64] ++ ([LT.sl] ++ [])))))
             (0 : Nat) (nthD l i.toNat).cells then
         bif
             (bif
                   bif intOf (nthD (nthD l i.toNat).cells (0 : Nat)) == (2 : Int) then
                     intOf (nthD (nthD l i.toNat).cells (1 : Nat)) == p
                   else false then
                 intOf (nthD (nthD l i.toNat).cells (2 : Nat)) == h
               else false) ==
               true then
           bif c (szOf (nthD (nthD l i.toNat).cells (4 : Nat))) (rowL (nthD (nthD l i.toNat).cells (4 : Nat))) z' x then
             bif bif true then g (rowL (nthD (nthD l i.toNat).cells (4 : Nat))) x (decide (ix ≥ (0 : Int))) else false then
               some
                 (Ex.ret,
                   Sx (14 : Nat)
                     [IV.int IntKind.i64 i, IV.int IntKind.i64 (0 : Int), IV.ptr (nat_lit 0) (nat_lit 0),
                       IV.fsl nl' cl' z' x, IV.int IntKind.i64 ix, IV.fsl none false (nat_lit 5) l,
                       IV.int IntKind.i64 (↑l.length : Int), IV.int IntKind.i64 i]
                     [Blk.var false
                         [IV.int IntKind.i64 k, IV.int IntKind.u32 h, IV.int IntKind.u32 p, IV.int IntKind.i64 a,
                           IV.fsl nl cl z b]])
             else
               some
                 (Ex.normal,
                   Sx (14 : Nat)
                     [IV.int IntKind.i64 (0 : Int), IV.int IntKind.i64 (0 : Int), IV.ptr (nat_lit 0) (nat_lit 0),
                       IV.fsl nl' cl' z' x, IV.int IntKind.i64 ix, IV.fsl none false (nat_lit 5) l,
                       IV.int IntKind.i64 (↑l.length : Int), IV.int IntKind.i64 (IntKind.i64.wrap (i + (1 : Int)))]
                     [Blk.var false
                         [IV.int IntKind.i64 k, IV.int IntKind.u32 h, IV.int IntKind.u32 p, IV.int IntKind.i64 a,
                           IV.fsl nl cl z b]])
           else none
         else
           some
             (Ex.normal,
               Sx (14 : Nat)
                 [IV.int IntKind.i64 (0 : Int), IV.int IntKind.i64 (0 : Int), IV.ptr (nat_lit 0) (nat_lit 0),
                   IV.fsl nl' cl' z' x, IV.int IntKind.i64 ix, IV.fsl none false (nat_lit 5) l,
                   IV.int IntKind.i64 (↑l.length : Int), IV.int IntKind.i64 (IntKind.i64.wrap (i + (1 : Int)))]
                 [Blk.var false
                     [IV.int IntKind.i64 k, IV.int IntKind.u32 h, IV.int IntKind.u32 p, IV.int IntKind.i64 a,
                       IV.fsl nl cl z b]])
       else none
     else none
   else
     some
       (Ex.exit (nat_lit 0),
         Sx (14 : Nat)
           [IV.int IntKind.i64 (0 : Int), IV.int IntKind.i64 (0 : Int), IV.ptr (nat_lit 0) (nat_lit 0),
             IV.fsl nl' cl' z' x, IV.int IntKind.i64 ix, IV.fsl none false (nat_lit 5) l,
             IV.int IntKind.i64 (↑l.length : Int), IV.int IntKind.i64 i]
           [Blk.var false
               [IV.int IntKind.i64 k, IV.int IntKind.u32 h, IV.int IntKind.u32 p, IV.int IntKind.i64 a, IV.fsl nl cl z b]])) := by kernel_rfl
theorem th_none (c : Nat → List IV → Nat → List IV → Bool) (g : List IV → List IV → Bool → Bool) (l fs : List IV) (told : Int) : Cb (tab [(26, stP c g)]) (ltab [(24, 26, noL), (14, 1018, noL)]) 14 [.fsl none false 5 l, .int .i64 told, .fsl none false 2 fs] [] =
  (bif (bif decide (told < (0 : Int)) then true else decide (told ≥ (↑l.length : Int))) == false then
     bif decide ((5 : Nat) = (5 : Nat) ∧ (0 : Int) ≤ told ∧ told < (↑l.length : Int)) then
       bif isOf (LT.i IntKind.i64) (nthD (List.drop (0 : Nat) (nthD l told.toNat).cells) (0 : Nat)) then
         bif
             bif false then true
             else intOf (nthD (List.drop (0 : Nat) (nthD l told.toNat).cells) (0 : Nat)) != (3 : Int) then
           some (IV.tup [IV.int IntKind.i64 (0 : Int), IV.int IntKind.i64 (1 : Int)], [])
         else
           bif decide ((5 : Nat) = (5 : Nat) ∧ (0 : Int) ≤ told ∧ told < (↑l.length : Int)) then
             bif
                 testAll
                   ([LT.i IntKind.i64] ++
                     ([LT.i IntKind.u32] ++ ([LT.i IntKind.u32] ++ ([LT.i IntKind.i64] ++ ([LT.sl] ++ [])))))
                   (0 : Nat) (nthD l told.toNat).cells then
               none
             else none
           else none
       else none
     else none
   else some (IV.tup [IV.int IntKind.i64 (0 : Int), IV.int IntKind.i64 (1 : Int)], [])) := by kernel_rfl
theorem th_no0 (c : Nat → List IV → Nat → List IV → Bool) (g : List IV → List IV → Bool → Bool) (l fs : List IV) (told : Int) : Cb (tab [(26, stP c g)]) (ltab [(24, 26, LF 24 1 (oneF (ixV fs 0 0) [.var false (evC (nthD l told.toNat))] (.exit 0) (ixV fs 0 (fs.length : Int)) [.var false (evC (nthD l told.toNat))])), (14, 1018, LF 14 0 (oneF (thV 0 0 nilT (-1) (tk l told) 0) [.var false (evC (nthD l told.toNat))] (.exit 0) (thV 0 0 nilT (-1) (tk l told) ((tk l told).length : Int)) [.var false (evC (nthD l told.toNat))]))]) 14 [.fsl none false 5 l, .int .i64 told, .fsl none false 2 fs] [] =
  (bif (bif decide (told < (0 : Int)) then true else decide (told ≥ (↑l.length : Int))) == false then
     bif decide ((5 : Nat) = (5 : Nat) ∧ (0 : Int) ≤ told ∧ told < (↑l.length : Int)) then
       bif isOf (LT.i IntKind.i64) (nthD (List.drop (0 : Nat) (nthD l told.toNat).cells) (0 : Nat)) then
         bif
             bif false then true
             else intOf (nthD (List.drop (0 : Nat) (nthD l told.toNat).cells) (0 : Nat)) != (3 : Int) then
           some (IV.tup [IV.int IntKind.i64 (0 : Int), IV.int IntKind.i64 (1 : Int)], [])
         else
           bif decide ((5 : Nat) = (5 : Nat) ∧ (0 : Int) ≤ told ∧ told < (↑l.length : Int)) then
             bif
                 testAll
                   ([LT.i IntKind.i64] ++
                     ([LT.i IntKind.u32] ++ ([LT.i IntKind.u32] ++ ([LT.i IntKind.i64] ++ ([LT.sl] ++ [])))))
                   (0 : Nat) (nthD l told.toNat).cells then
               bif sameS (ixV fs 0 0) [.var false (evC (nthD l told.toNat))] then
                 bif decide ((0 : Int) ≤ (0 : Int) ∧ (0 : Int) ≤ told ∧ told ≤ (↑l.length : Int)) then
                   bif sameS (thV 0 0 nilT (-1) (tk l told) 0) [.var false (evC (nthD l told.toNat))] then some (IV.tup [IV.int IntKind.i64 (0 : Int), IV.int IntKind.i64 (4 : Int)], []) else none
                 else none
               else none
             else none
           else none
       else none
     else none
   else some (IV.tup [IV.int IntKind.i64 (0 : Int), IV.int IntKind.i64 (1 : Int)], [])) := by kernel_rfl
theorem th_yes0 (c : Nat → List IV → Nat → List IV → Bool) (g : List IV → List IV → Bool → Bool) (l fs : List IV) (told j : Int) : Cb (tab [(26, stP c g)]) (ltab [(24, 26, LF 24 1 (oneF (ixV fs 0 0) [.var false (evC (nthD l told.toNat))] (.exit 0) (ixV fs 0 (fs.length : Int)) [.var false (evC (nthD l told.toNat))])), (14, 1018, LF 14 0 (oneF (thV 0 0 nilT (-1) (tk l told) 0) [.var false (evC (nthD l told.toNat))] .ret (thV j 0 nilT (-1) (tk l told) j) [.var false (evC (nthD l told.toNat))]))]) 14 [.fsl none false 5 l, .int .i64 told, .fsl none false 2 fs] [] =
  (bif (bif decide (told < (0 : Int)) then true else decide (told ≥ (↑l.length : Int))) == false then
     bif decide ((5 : Nat) = (5 : Nat) ∧ (0 : Int) ≤ told ∧ told < (↑l.length : Int)) then
       bif isOf (LT.i IntKind.i64) (nthD (List.drop (0 : Nat) (nthD l told.toNat).cells) (0 : Nat)) then
         bif
             bif false then true
             else intOf (nthD (List.drop (0 : Nat) (nthD l told.toNat).cells) (0 : Nat)) != (3 : Int) then
           some (IV.tup [IV.int IntKind.i64 (0 : Int), IV.int IntKind.i64 (1 : Int)], [])
         else
           bif decide ((5 : Nat) = (5 : Nat) ∧ (0 : Int) ≤ told ∧ told < (↑l.length : Int)) then
             bif
                 testAll
                   ([LT.i IntKind.i64] ++
                     ([LT.i IntKind.u32] ++ ([LT.i IntKind.u32] ++ ([LT.i IntKind.i64] ++ ([LT.sl] ++ [])))))
                   (0 : Nat) (nthD l told.toNat).cells then
               bif sameS (ixV fs 0 0) [.var false (evC (nthD l told.toNat))] then
                 bif decide ((0 : Int) ≤ (0 : Int) ∧ (0 : Int) ≤ told ∧ told ≤ (↑l.length : Int)) then
                   bif sameS (thV 0 0 nilT (-1) (tk l told) 0) [.var false (evC (nthD l told.toNat))] then some (IV.tup [IV.int IntKind.i64 j, IV.int IntKind.i64 (0 : Int)], []) else none
                 else none
               else none
             else none
           else none
       else none
     else none
   else some (IV.tup [IV.int IntKind.i64 (0 : Int), IV.int IntKind.i64 (1 : Int)], [])) := by kernel_rfl
theorem th_no1 (c : Nat → List IV → Nat → List IV → Bool) (g : List IV → List IV → Bool → Bool) (l fs : List IV) (told ix : Int) : Cb (tab [(26, stP c g)]) (ltab [(24, 26, LF 24 1 (oneF (ixV fs 0 0) [.var false (evC (nthD l told.toNat))] .ret (ixV fs ix ix) [.var false (evC (nthD l told.toNat))])), (14, 1018, LF 14 0 (oneF (thV 0 0 (fcT (nthD fs ix.toNat)) ix (tk l told) 0) [.var false (evC (nthD l told.toNat))] (.exit 0) (thV 0 0 (fcT (nthD fs ix.toNat)) ix (tk l told) ((tk l told).length : Int)) [.var false (evC (nthD l told.toNat))]))]) 14 [.fsl none false 5 l, .int .i64 told, .fsl none false 2 fs] [] =
  (bif (bif decide (told < (0 : Int)) then true else decide (told ≥ (↑l.length : Int))) == false then
     bif decide ((5 : Nat) = (5 : Nat) ∧ (0 : Int) ≤ told ∧ told < (↑l.length : Int)) then
       bif isOf (LT.i IntKind.i64) (nthD (List.drop (0 : Nat) (nthD l told.toNat).cells) (0 : Nat)) then
         bif
             bif false then true
             else intOf (nthD (List.drop (0 : Nat) (nthD l told.toNat).cells) (0 : Nat)) != (3 : Int) then
           some (IV.tup [IV.int IntKind.i64 (0 : Int), IV.int IntKind.i64 (1 : Int)], [])
         else
           bif decide ((5 : Nat) = (5 : Nat) ∧ (0 : Int) ≤ told ∧ told < (↑l.length : Int)) then
             bif
                 testAll
                   ([LT.i IntKind.i64] ++
                     ([LT.i IntKind.u32] ++ ([LT.i IntKind.u32] ++ ([LT.i IntKind.i64] ++ ([LT.sl] ++ [])))))
                   (0 : Nat) (nthD l told.toNat).cells then
               bif sameS (ixV fs 0 0) [.var false (evC (nthD l told.toNat))] then
                 bif decide (ix ≥ (0 : Int)) then
                   bif decide ((2 : Nat) = (2 : Nat) ∧ (0 : Int) ≤ ix ∧ ix < (↑fs.length : Int)) then
                     bif isOf LT.sl (nthD (List.drop (1 : Nat) (nthD fs ix.toNat).cells) (0 : Nat)) then
                       bif decide ((0 : Int) ≤ (0 : Int) ∧ (0 : Int) ≤ told ∧ told ≤ (↑l.length : Int)) then
                         bif sameS (thV 0 0 (fcT (nthD fs ix.toNat)) ix (tk l told) 0) [.var false (evC (nthD l told.toNat))] then some (IV.tup [IV.int IntKind.i64 (0 : Int), IV.int IntKind.i64 (4 : Int)], [])
                         else none
                       else none
                     else none
                   else none
                 else
                   bif decide ((0 : Int) ≤ (0 : Int) ∧ (0 : Int) ≤ told ∧ told ≤ (↑l.length : Int)) then
                     bif difS (thV 0 0 nilT ix (tk l told) 0) (thV 0 0 (fcT (nthD fs ix.toNat)) ix (tk l told) 0) [.var false (evC (nthD l told.toNat))] then some (IV.tup [IV.int IntKind.i64 (0 : Int), IV.int IntKind.i64 (4 : Int)], []) else none
                   else none
               else none
             else none
           else none
       else none
     else none
   else some (IV.tup [IV.int IntKind.i64 (0 : Int), IV.int IntKind.i64 (1 : Int)], [])) := by kernel_rfl
theorem th_yes1 (c : Nat → List IV → Nat → List IV → Bool) (g : List IV → List IV → Bool → Bool) (l fs : List IV) (told j ix : Int) : Cb (tab [(26, stP c g)]) (ltab [(24, 26, LF 24 1 (oneF (ixV fs 0 0) [.var false (evC (nthD l told.toNat))] .ret (ixV fs ix ix) [.var false (evC (nthD l told.toNat))])), (14, 1018, LF 14 0 (oneF (thV 0 0 (fcT (nthD fs ix.toNat)) ix (tk l told) 0) [.var false (evC (nthD l told.toNat))] .ret (thV j 0 (fcT (nthD fs ix.toNat)) ix (tk l told) j) [.var false (evC (nthD l told.toNat))]))]) 14 [.fsl none false 5 l, .int .i64 told, .fsl none false 2 fs] [] =
  (bif (bif decide (told < (0 : Int)) then true else decide (told ≥ (↑l.length : Int))) == false then
     bif decide ((5 : Nat) = (5 : Nat) ∧ (0 : Int) ≤ told ∧ told < (↑l.length : Int)) then
       bif isOf (LT.i IntKind.i64) (nthD (List.drop (0 : Nat) (nthD l told.toNat).cells) (0 : Nat)) then
         bif
             bif false then true
             else intOf (nthD (List.drop (0 : Nat) (nthD l told.toNat).cells) (0 : Nat)) != (3 : Int) then
           some (IV.tup [IV.int IntKind.i64 (0 : Int), IV.int IntKind.i64 (1 : Int)], [])
         else
           bif decide ((5 : Nat) = (5 : Nat) ∧ (0 : Int) ≤ told ∧ told < (↑l.length : Int)) then
             bif
                 testAll
                   ([LT.i IntKind.i64] ++
                     ([LT.i IntKind.u32] ++ ([LT.i IntKind.u32] ++ ([LT.i IntKind.i64] ++ ([LT.sl] ++ [])))))
                   (0 : Nat) (nthD l told.toNat).cells then
               bif sameS (ixV fs 0 0) [.var false (evC (nthD l told.toNat))] then
                 bif decide (ix ≥ (0 : Int)) then
                   bif decide ((2 : Nat) = (2 : Nat) ∧ (0 : Int) ≤ ix ∧ ix < (↑fs.length : Int)) then
                     bif isOf LT.sl (nthD (List.drop (1 : Nat) (nthD fs ix.toNat).cells) (0 : Nat)) then
                       bif decide ((0 : Int) ≤ (0 : Int) ∧ (0 : Int) ≤ told ∧ told ≤ (↑l.length : Int)) then
                         bif sameS (thV 0 0 (fcT (nthD fs ix.toNat)) ix (tk l told) 0) [.var false (evC (nthD l told.toNat))] then some (IV.tup [IV.int IntKind.i64 j, IV.int IntKind.i64 (0 : Int)], []) else none
                       else none
                     else none
                   else none
                 else
                   bif decide ((0 : Int) ≤ (0 : Int) ∧ (0 : Int) ≤ told ∧ told ≤ (↑l.length : Int)) then
                     bif difS (thV 0 0 nilT ix (tk l told) 0) (thV 0 0 (fcT (nthD fs ix.toNat)) ix (tk l told) 0) [.var false (evC (nthD l told.toNat))] then some (IV.tup [IV.int IntKind.i64 j, IV.int IntKind.i64 (0 : Int)], []) else none
                   else none
               else none
             else none
           else none
       else none
     else none
   else some (IV.tup [IV.int IntKind.i64 (0 : Int), IV.int IntKind.i64 (1 : Int)], [])) := by kernel_rfl
/-! ### Faces -/
abbrev faV (nl : Option Bool) (cl : Bool) (fs : List IV) (i : Int) : List IV := [.fsl nl cl 2 fs, .osl 0 0, .int .i64 i]
theorem fa_in (c : Nat → List IV → Bool) (nl : Option Bool) (cl : Bool) (fs out : List IV) (i : Int) : Rd (tab [(22, joP c)]) 0 15 58 (Sx 15 (faV nl cl fs i) [.row 0 false 2 out]) =
  (bif decide (i < (↑fs.length : Int)) then
     bif decide ((2 : Nat) = (2 : Nat) ∧ (0 : Int) ≤ i ∧ i < (↑fs.length : Int)) then
       bif isOf (LT.i IntKind.u32) (nthD (List.drop (0 : Nat) (nthD fs i.toNat).cells) (0 : Nat)) then
         bif decide ((2 : Nat) = (2 : Nat) ∧ (0 : Int) ≤ i ∧ i < (↑fs.length : Int)) then
           bif isOf LT.sl (nthD (List.drop (1 : Nat) (nthD fs i.toNat).cells) (0 : Nat)) then
             bif
                 c (szOf (nthD (List.drop (1 : Nat) (nthD fs i.toNat).cells) (0 : Nat)))
                   (rowL (nthD (List.drop (1 : Nat) (nthD fs i.toNat).cells) (0 : Nat))) then
               bif
                   decide
                     ((out.length +
                             [IV.agg
                                   [IV.int IntKind.u32
                                       (intOf (nthD (List.drop (0 : Nat) (nthD fs i.toNat).cells) (0 : Nat))),
                                     IV.fsl none false (1 : Nat)
                                       (rowL (nthD (List.drop (1 : Nat) (nthD fs i.toNat).cells) (0 : Nat)))]].length) *
                           (32 : Nat) ≤
                         roomB ∧
                       out.length +
                           [IV.agg
                                 [IV.int IntKind.u32
                                     (intOf (nthD (List.drop (0 : Nat) (nthD fs i.toNat).cells) (0 : Nat))),
                                   IV.fsl none false (1 : Nat)
                                     (rowL (nthD (List.drop (1 : Nat) (nthD fs i.toNat).cells) (0 : Nat)))]].length ≤
                         maxLen) then
                 some
                   (Ex.normal,
                     Sx (15 : Nat)
                       [IV.fsl nl cl (nat_lit 2) fs, IV.osl (nat_lit 0) (nat_lit 0),
                         IV.int IntKind.i64 (IntKind.i64.wrap (i + (1 : Int)))]
                       [Blk.row (nat_lit 0) false (nat_lit 2)
                           (out ++
                             [IV.agg
                                 [IV.int IntKind.u32
                                     (intOf (nthD (List.drop (0 : Nat) (nthD fs i.toNat).cells) (0 : Nat))),
                                   IV.fsl none false (1 : Nat)
                                     (rowL (nthD (List.drop (1 : Nat) (nthD fs i.toNat).cells) (0 : Nat)))]])])
               else none
             else none
           else none
         else none
       else none
     else none
   else
     some
       (Ex.exit (nat_lit 0),
         Sx (15 : Nat) [IV.fsl nl cl (nat_lit 2) fs, IV.osl (nat_lit 0) (nat_lit 0), IV.int IntKind.i64 i]
           [Blk.row (nat_lit 0) false (nat_lit 2) out])) := by kernel_rfl
theorem fa_call (c : Nat → List IV → Bool) (nl : Option Bool) (cl : Bool) (fs out : List IV) : Cb (tab [(22, joP c)]) (ltab [(15, 58, LF 15 0 (oneF (faV nl cl fs 0) [.row 0 false 2 []] (.exit 0) (faV nl cl fs (fs.length : Int)) [.row 0 false 2 out]))]) 15 [.fsl nl cl 2 fs] [] =
  (bif sameS (faV nl cl fs 0) [.row 0 false 2 []] then some (IV.osl (nat_lit 0) (nat_lit 0), [Blk.row (nat_lit 0) false (nat_lit 2) out]) else none) := by kernel_rfl
def faP (c : List IV → Bool) (g : List IV → List IV) : SpecF := fun us T => match us, T with
  | [.fsl nl cl 2 l], [] => [(c l, .fsl none false 2 (g l), [])]
  | _, _ => []
/-! ### What is said -/
def thP (c : List IV → Int → List IV → Bool) (ga ge : List IV → Int → List IV → Int) : SpecF := fun us T => match us, T with
  | [.fsl nl cl 5 l, .int .i64 told, .fsl nl' cl' 2 fs], [] => [(c l told fs, .tup [.int .i64 (ga l told fs), .int .i64 (ge l told fs)], [])]
  | _, _ => []
abbrev juV (nl : Option Bool) (cl : Bool) (l : List IV) (nl' : Option Bool) (cl' : Bool) (fs rows : List IV) (i : Int) : List IV := [.fsl nl cl 5 l, .fsl nl' cl' 2 fs, .osl 0 0, .fsl none false 2 rows, .int .i64 (rows.length : Int), .int .i64 i]
theorem ju_in (cm : List IV → Bool) (gm : List IV → List IV) (c : List IV → Int → List IV → Bool) (ga ge : List IV → Int → List IV → Int) (nl : Option Bool) (cl : Bool) (l : List IV) (nl' : Option Bool) (cl' : Bool) (fs rows out : List IV) (i : Int) : Rd (tab [(11, matP cm gm), (14, thP c ga ge)]) 0 17 58 (Sx 17 (juV nl cl l nl' cl' fs rows i) [.row 0 false 3 out]) =
  (bif decide (i < (↑rows.length : Int)) then
     bif decide ((2 : Nat) = (2 : Nat) ∧ (0 : Int) ≤ i ∧ i < (↑rows.length : Int)) then
       bif testAll (List.replicate (2 : Nat) [LT.i IntKind.i64]).flatten (0 : Nat) (nthD rows i.toNat).cells then
         bif decide (intOf (nthD (nthD rows i.toNat).cells (1 : Nat)) ≥ (0 : Int)) then
           bif
               decide
                 ((out.length +
                         [IV.agg
                               [IV.int IntKind.i64 (1 : Int),
                                 IV.int IntKind.i64 (intOf (nthD (nthD rows i.toNat).cells (0 : Nat))),
                                 IV.int IntKind.i64 (intOf (nthD (nthD rows i.toNat).cells (1 : Nat)))]].length) *
                       (24 : Nat) ≤
                     roomB ∧
                   out.length +
                       [IV.agg
                             [IV.int IntKind.i64 (1 : Int),
                               IV.int IntKind.i64 (intOf (nthD (nthD rows i.toNat).cells (0 : Nat))),
                               IV.int IntKind.i64 (intOf (nthD (nthD rows i.toNat).cells (1 : Nat)))]].length ≤
                     maxLen) then
             some
               (Ex.normal,
                 Sx (17 : Nat)
                   [IV.fsl nl cl (nat_lit 5) l, IV.fsl nl' cl' (nat_lit 2) fs, IV.osl (nat_lit 0) (nat_lit 0),
                     IV.fsl none false (nat_lit 2) rows, IV.int IntKind.i64 (↑rows.length : Int),
                     IV.int IntKind.i64 (IntKind.i64.wrap (i + (1 : Int)))]
                   [Blk.row (nat_lit 0) false (nat_lit 3)
                       (out ++
                         [IV.agg
                             [IV.int IntKind.i64 (1 : Int),
                               IV.int IntKind.i64 (intOf (nthD (nthD rows i.toNat).cells (0 : Nat))),
                               IV.int IntKind.i64 (intOf (nthD (nthD rows i.toNat).cells (1 : Nat)))]])])
           else none
         else
           bif c l (intOf (nthD (nthD rows i.toNat).cells (0 : Nat))) fs then
             bif ge l (intOf (nthD (nthD rows i.toNat).cells (0 : Nat))) fs == (0 : Int) then
               bif
                   decide
                     ((out.length +
                             [IV.agg
                                   [IV.int IntKind.i64 (2 : Int),
                                     IV.int IntKind.i64 (intOf (nthD (nthD rows i.toNat).cells (0 : Nat))),
                                     IV.int IntKind.i64
                                       (ga l (intOf (nthD (nthD rows i.toNat).cells (0 : Nat))) fs)]].length) *
                           (24 : Nat) ≤
                         roomB ∧
                       out.length +
                           [IV.agg
                                 [IV.int IntKind.i64 (2 : Int),
                                   IV.int IntKind.i64 (intOf (nthD (nthD rows i.toNat).cells (0 : Nat))),
                                   IV.int IntKind.i64
                                     (ga l (intOf (nthD (nthD rows i.toNat).cells (0 : Nat))) fs)]].length ≤
                         maxLen) then
                 some
                   (Ex.normal,
                     Sx (17 : Nat)
                       [IV.fsl nl cl (nat_lit 5) l, IV.fsl nl' cl' (nat_lit 2) fs, IV.osl (nat_lit 0) (nat_lit 0),
                         IV.fsl none false (nat_lit 2) rows, IV.int IntKind.i64 (↑rows.length : Int),
                         IV.int IntKind.i64 (IntKind.i64.wrap (i + (1 : Int)))]
                       [Blk.row (nat_lit 0) false (nat_lit 3)
                           (out ++
                             [IV.agg
                                 [IV.int IntKind.i64 (2 : Int),
                                   IV.int IntKind.i64 (intOf (nthD (nthD rows i.toNat).cells (0 : Nat))),
                                   IV.int IntKind.i64 (ga l (intOf (nthD (nthD rows i.toNat).cells (0 : Nat))) fs)]])])
               else none
             else
               bif
                   decide
                     ((out.length +
                             [IV.agg
                                   [IV.int IntKind.i64 (3 : Int),
                                     IV.int IntKind.i64 (intOf (nthD (nthD rows i.toNat).cells (0 : Nat))),
                                     IV.int IntKind.i64 (-1 : Int)]].length) *
                           (24 : Nat) ≤
                         roomB ∧
                       out.length +
                           [IV.agg
                                 [IV.int IntKind.i64 (3 : Int),
                                   IV.int IntKind.i64 (intOf (nthD (nthD rows i.toNat).cells (0 : Nat))),
                                   IV.int IntKind.i64 (-1 : Int)]].length ≤
                         maxLen) then
                 some
                   (Ex.normal,
                     Sx (17 : Nat)
                       [IV.fsl nl cl (nat_lit 5) l, IV.fsl nl' cl' (nat_lit 2) fs, IV.osl (nat_lit 0) (nat_lit 0),
                         IV.fsl none false (nat_lit 2) rows, IV.int IntKind.i64 (↑rows.length : Int),
                         IV.int IntKind.i64 (IntKind.i64.wrap (i + (1 : Int)))]
                       [Blk.row (nat_lit 0) false (nat_lit 3)
                           (out ++
                             [IV.agg
                                 [IV.int IntKind.i64 (3 : Int),
                                   IV.int IntKind.i64 (intOf (nthD (nthD rows i.toNat).cells (0 : Nat))),
                                   IV.int IntKind.i64 (-1 : Int)]])])
               else none
           else none
       else none
     else none
   else
     some
       (Ex.exit (nat_lit 0),
         Sx (17 : Nat)
           [IV.fsl nl cl (nat_lit 5) l, IV.fsl nl' cl' (nat_lit 2) fs, IV.osl (nat_lit 0) (nat_lit 0),
             IV.fsl none false (nat_lit 2) rows, IV.int IntKind.i64 (↑rows.length : Int), IV.int IntKind.i64 i]
           [Blk.row (nat_lit 0) false (nat_lit 3) out])) := by kernel_rfl
theorem ju_call (cm : List IV → Bool) (gm : List IV → List IV) (c : List IV → Int → List IV → Bool) (ga ge : List IV → Int → List IV → Int) (nl : Option Bool) (cl : Bool) (l : List IV) (nl' : Option Bool) (cl' : Bool) (fs out : List IV) : Cb (tab [(11, matP cm gm), (14, thP c ga ge)]) (ltab [(17, 58, LF 17 0 (oneF (juV nl cl l nl' cl' fs (gm l) 0) [.row 0 false 3 []] (.exit 0) (juV nl cl l nl' cl' fs (gm l) ((gm l).length : Int)) [.row 0 false 3 out]))]) 17 [.fsl nl cl 5 l, .fsl nl' cl' 2 fs] [] =
  (bif cm l then bif sameS (juV nl cl l nl' cl' fs (gm l) 0) [.row 0 false 3 []] then some (IV.osl (nat_lit 0) (nat_lit 0), [Blk.row (nat_lit 0) false (nat_lit 3) out]) else none
   else none) := by kernel_rfl
def juP (c : List IV → List IV → Bool) (g : List IV → List IV → List IV) : SpecF := fun us T => match us, T with
  | [.fsl nl cl 5 l, .fsl nl' cl' 2 fs], [] => [(c l fs, .fsl none false 3 (g l fs), [])]
  | _, _ => []
/-! ### The law -/
abbrev tabB (cl0 gl0 co : List IV → Bool) (go : List IV → List IV) (cf : List IV → Bool) (gf : List IV → List IV) (cj : List IV → List IV → Bool) (gj : List IV → List IV → List IV) : FuncId → Option SpecF := tab [(9, lgP cl0 gl0), (10, constF (.bool true)), (12, owP co go), (15, faP cf gf), (17, juP cj gj)]
abbrev beV (r : Bool) (a b : List IV) (i : Int) : List IV := [.bool r, .fsl none false 3 a, .fsl none false 3 b, .int .i64 i]
theorem be_in (cl0 gl0 co : List IV → Bool) (go : List IV → List IV) (cf : List IV → Bool) (gf : List IV → List IV) (cj : List IV → List IV → Bool) (gj : List IV → List IV → List IV) (a b : List IV) (i : Int) : Rd (tabB cl0 gl0 co go cf gf cj gj) 0 6 250 (Sx 6 (beV false a b i) []) =
  (bif decide (i < (↑a.length : Int)) then
     bif decide ((3 : Nat) = (3 : Nat) ∧ (0 : Int) ≤ i ∧ i < (↑a.length : Int)) then
       bif
           testAll ([LT.i IntKind.i64] ++ ([LT.i IntKind.i64] ++ ([LT.i IntKind.i64] ++ []))) (0 : Nat)
             (nthD a i.toNat).cells then
         bif decide ((3 : Nat) = (3 : Nat) ∧ (0 : Int) ≤ i ∧ i < (↑b.length : Int)) then
           bif
               testAll ([LT.i IntKind.i64] ++ ([LT.i IntKind.i64] ++ ([LT.i IntKind.i64] ++ []))) (0 : Nat)
                 (nthD b i.toNat).cells then
             bif
                 !(intOf (nthD (nthD a i.toNat).cells (0 : Nat)) == intOf (nthD (nthD b i.toNat).cells (0 : Nat)) &&
                     (intOf (nthD (nthD a i.toNat).cells (1 : Nat)) == intOf (nthD (nthD b i.toNat).cells (1 : Nat)) &&
                       (intOf (nthD (nthD a i.toNat).cells (2 : Nat)) == intOf (nthD (nthD b i.toNat).cells (2 : Nat)) &&
                         true))) then
               some
                 (Ex.ret,
                   Sx (6 : Nat)
                     [IV.bool false, IV.fsl none false (nat_lit 3) a, IV.fsl none false (nat_lit 3) b,
                       IV.int IntKind.i64 i]
                     [])
             else
               some
                 (Ex.normal,
                   Sx (6 : Nat)
                     [IV.bool false, IV.fsl none false (nat_lit 3) a, IV.fsl none false (nat_lit 3) b,
                       IV.int IntKind.i64 (IntKind.i64.wrap (i + (1 : Int)))]
                     [])
           else none
         else none
       else none
     else none
   else
     some
       (Ex.exit (nat_lit 0),
         Sx (6 : Nat)
           [IV.bool false, IV.fsl none false (nat_lit 3) a, IV.fsl none false (nat_lit 3) b, IV.int IntKind.i64 i] [])) := by kernel_rfl
theorem be_call (cl0 gl0 co : List IV → Bool) (go : List IV → List IV) (cf : List IV → Bool) (gf : List IV → List IV) (cj : List IV → List IV → Bool) (gj : List IV → List IV → List IV) (nl : Option Bool) (cl : Bool) (l : List IV) (nl' : Option Bool) (cl' : Bool) (fs : List IV) (n i : Int) : Cb (tabB cl0 gl0 co go cf gf cj gj) (ltab [(6, 250, LF 6 0 (oneF (beV false (gj (go (List.take (n.toNat - 0) (List.drop 0 l))) (gf fs)) (gj (go l) (gf fs)) 0) [] (.exit 0) (beV false (gj (go (List.take (n.toNat - 0) (List.drop 0 l))) (gf fs)) (gj (go l) (gf fs)) i) []))]) 6 [.fsl nl cl 5 l, .int .i64 n, .fsl nl' cl' 2 fs] [] =
  (bif cl0 l then
     bif
         bif bif bif gl0 l then true else decide (n < (0 : Int)) then true else decide (n > (↑l.length : Int)) then true
         else decide ((↑fs.length : Int) > (20 : Int)) then
       some (IV.bool true, [])
     else
       bif decide ((0 : Int) ≤ (0 : Int) ∧ (0 : Int) ≤ n ∧ n ≤ (↑l.length : Int)) then
         bif co (List.take (n.toNat - (0 : Nat)) (List.drop (0 : Nat) l)) then
           bif cf fs then
             bif cj (go (List.take (n.toNat - (0 : Nat)) (List.drop (0 : Nat) l))) (gf fs) then
               bif co l then
                 bif cf fs then
                   bif cj (go l) (gf fs) then
                     bif
                         decide
                           ((↑(gj (go (List.take (n.toNat - (0 : Nat)) (List.drop (0 : Nat) l))) (gf fs)).length : Int) >
                             (↑(gj (go l) (gf fs)).length : Int)) then
                       some (IV.bool false, [])
                     else bif sameS (beV false (gj (go (List.take (n.toNat - 0) (List.drop 0 l))) (gf fs)) (gj (go l) (gf fs)) 0) [] then some (IV.bool true, []) else none
                   else none
                 else none
               else none
             else none
           else none
         else none
       else none
   else none) := by kernel_rfl
theorem be_long (cl0 gl0 co : List IV → Bool) (go : List IV → List IV) (cf : List IV → Bool) (gf : List IV → List IV) (cj : List IV → List IV → Bool) (gj : List IV → List IV → List IV) (nl : Option Bool) (cl : Bool) (l : List IV) (nl' : Option Bool) (cl' : Bool) (fs : List IV) (n : Int) : Cb (tabB cl0 gl0 co go cf gf cj gj) (ltab [(6, 250, noL)]) 6 [.fsl nl cl 5 l, .int .i64 n, .fsl nl' cl' 2 fs] [] =
  (bif cl0 l then
     bif
         bif bif bif gl0 l then true else decide (n < (0 : Int)) then true else decide (n > (↑l.length : Int)) then true
         else decide ((↑fs.length : Int) > (20 : Int)) then
       some (IV.bool true, [])
     else
       bif decide ((0 : Int) ≤ (0 : Int) ∧ (0 : Int) ≤ n ∧ n ≤ (↑l.length : Int)) then
         bif co (List.take (n.toNat - (0 : Nat)) (List.drop (0 : Nat) l)) then
           bif cf fs then
             bif cj (go (List.take (n.toNat - (0 : Nat)) (List.drop (0 : Nat) l))) (gf fs) then
               bif co l then
                 bif cf fs then
                   bif cj (go l) (gf fs) then
                     bif
                         decide
                           ((↑(gj (go (List.take (n.toNat - (0 : Nat)) (List.drop (0 : Nat) l))) (gf fs)).length : Int) >
                             (↑(gj (go l) (gf fs)).length : Int)) then
                       some (IV.bool false, [])
                     else none
                   else none
                 else none
               else none
             else none
           else none
         else none
       else none
   else none) := by kernel_rfl
end Go.Proofs.Ytgbddcdpbgaojaa
