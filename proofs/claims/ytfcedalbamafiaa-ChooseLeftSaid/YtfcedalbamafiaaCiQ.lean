/- Cluster: rounds and calls: what the given program does. It bears no condition. -/
import Derived.Test.YtfcedalbamafiaaCiO
import Derived.Test.YtfcedalbamafiaaCiP
-- BYTES bytsQ
-- SUB (b0 : Bool)  => 
-- SUB (b1 : Bool)  => 
-- SUB (b0 : Bool) (b1 : Bool)  => 
-- SUB cstF b0 => oneF (clV nl' cl' ys least (.int .i64 (ga xs l)) (.int .i64 (gb xs l)) (.int .i64 1099511627776) n i (.osl 2 0) (.int .i64 (l.length : Int)) (.int .i64 0)) (clB nl cl xs l)
-- SUB bif b0 => bif sameS (clV nl' cl' ys least (.int .i64 (ga xs l)) (.int .i64 (gb xs l)) (.int .i64 1099511627776) n i (.osl 2 0) (.int .i64 (l.length : Int)) (.int .i64 0)) (clB nl cl xs l)
namespace Go.Proofs.Ytfcedalbamafiaa
open Go Go.Im
set_option linter.unusedVariables false
set_option linter.unusedSimpArgs false
noncomputable abbrev Rp (p : Nat) (spec : FuncId → Option SpecF) (f : FuncId) (q : Nat) (s : St) : Option (Ex × St) := roundK Try.prog hint spec (fun _ _ => none) 30 p f q s
noncomputable abbrev Rl (spec : FuncId → Option SpecF) (ls : FuncId → Nat → Option LoopF) (p : Nat) (f : FuncId) (q : Nat) (s : St) : Option (Ex × St) := roundK Try.prog hint spec ls 30 p f q s
/-! ### The reference's strange -/
abbrev stV (nl : Option Bool) (cl : Bool) (xs l : List IV) (a s i : Int) : List IV := [.fsl nl cl 1 xs, .fsl none false 1 l, .int .i64 a, .int .i64 s, .int .i64 i]
theorem st_in (sp : FuncId → Option SpecF) (nl : Option Bool) (cl : Bool) (xs l : List IV) (a s i : Int) : Rd sp 32 58 (Sx 32 (stV nl cl xs l a s i) []) =
  (bif decide (i < (↑l.length : Int)) then
     bif decide ((1 : Nat) = (1 : Nat) ∧ (0 : Int) ≤ a ∧ a < (↑l.length : Int)) then
       bif isOf (LT.i IntKind.i64) (nthD (nthD l a.toNat).cells (0 : Nat)) then
         bif
             decide
               ((1 : Nat) = (1 : Nat) ∧
                 (0 : Int) ≤ Im.intOf (nthD (nthD l a.toNat).cells (0 : Nat)) ∧
                   Im.intOf (nthD (nthD l a.toNat).cells (0 : Nat)) < (↑xs.length : Int)) then
           bif
               isOf (LT.i IntKind.i64)
                 (nthD (nthD xs (Im.intOf (nthD (nthD l a.toNat).cells (0 : Nat))).toNat).cells (0 : Nat)) then
             bif decide ((1 : Nat) = (1 : Nat) ∧ (0 : Int) ≤ i ∧ i < (↑l.length : Int)) then
               bif isOf (LT.i IntKind.i64) (nthD (nthD l i.toNat).cells (0 : Nat)) then
                 bif
                     decide
                       ((1 : Nat) = (1 : Nat) ∧
                         (0 : Int) ≤ Im.intOf (nthD (nthD l i.toNat).cells (0 : Nat)) ∧
                           Im.intOf (nthD (nthD l i.toNat).cells (0 : Nat)) < (↑xs.length : Int)) then
                   bif
                       isOf (LT.i IntKind.i64)
                         (nthD (nthD xs (Im.intOf (nthD (nthD l i.toNat).cells (0 : Nat))).toNat).cells (0 : Nat)) then
                     bif
                         decide
                           (IntKind.i64.wrap
                               (Im.intOf
                                   (nthD (nthD xs (Im.intOf (nthD (nthD l a.toNat).cells (0 : Nat))).toNat).cells
                                     (0 : Nat)) -
                                 Im.intOf
                                   (nthD (nthD xs (Im.intOf (nthD (nthD l i.toNat).cells (0 : Nat))).toNat).cells
                                     (0 : Nat))) <
                             (0 : Int)) then
                       some
                         (Ex.normal,
                           Sx (32 : Nat)
                             [IV.fsl nl cl (nat_lit 1) xs, IV.fsl none false (nat_lit 1) l, IV.int IntKind.i64 a,
                               IV.int IntKind.i64
                                 (IntKind.i64.wrap
                                   (s +
                                     IntKind.i64.wrap
                                       ((0 : Int) -
                                         IntKind.i64.wrap
                                           (Im.intOf
                                               (nthD
                                                 (nthD xs (Im.intOf (nthD (nthD l a.toNat).cells (0 : Nat))).toNat).cells
                                                 (0 : Nat)) -
                                             Im.intOf
                                               (nthD
                                                 (nthD xs (Im.intOf (nthD (nthD l i.toNat).cells (0 : Nat))).toNat).cells
                                                 (0 : Nat)))))),
                               IV.int IntKind.i64 (IntKind.i64.wrap (i + (1 : Int)))]
                             [])
                     else
                       some
                         (Ex.normal,
                           Sx (32 : Nat)
                             [IV.fsl nl cl (nat_lit 1) xs, IV.fsl none false (nat_lit 1) l, IV.int IntKind.i64 a,
                               IV.int IntKind.i64
                                 (IntKind.i64.wrap
                                   (s +
                                     IntKind.i64.wrap
                                       (Im.intOf
                                           (nthD (nthD xs (Im.intOf (nthD (nthD l a.toNat).cells (0 : Nat))).toNat).cells
                                             (0 : Nat)) -
                                         Im.intOf
                                           (nthD (nthD xs (Im.intOf (nthD (nthD l i.toNat).cells (0 : Nat))).toNat).cells
                                             (0 : Nat))))),
                               IV.int IntKind.i64 (IntKind.i64.wrap (i + (1 : Int)))]
                             [])
                   else none
                 else none
               else none
             else none
           else none
         else none
       else none
     else none
   else
     some
       (Ex.exit (nat_lit 0),
         Sx (32 : Nat)
           [IV.fsl nl cl (nat_lit 1) xs, IV.fsl none false (nat_lit 1) l, IV.int IntKind.i64 a, IV.int IntKind.i64 s,
             IV.int IntKind.i64 i]
           [])) := by kernel_rfl
theorem st_call (nl : Option Bool) (cl : Bool) (xs l : List IV) (a s : Int) : callK Try.prog hint (tab []) (ltab [(32, 58, LF 32 0 (oneF (stV nl cl xs l a 0 0) [] (.exit 0) (stV nl cl xs l a s (l.length : Int)) []))]) 30 32 [.fsl nl cl 1 xs, .fsl none false 1 l, .int .i64 a] [] (fun v T => some (v, T)) =
    bif sameS (stV nl cl xs l a 0 0) [] then some (.int .i64 s, []) else none := by kernel_rfl
def stP (c : List IV → List IV → Int → Bool) (w : List IV → List IV → Int → Int) : SpecF := fun us T => match us, T with
  | [.fsl nl cl 1 xs, .fsl none false 1 l, .int .i64 a], [] => [(c xs l a, .int .i64 (w xs l a), [])]
  | _, _ => []
/-! ### The closure and greatest -/
abbrev grB (nl : Option Bool) (cl : Bool) (xs l : List IV) : List Blk := [.var false [.osl 2 0], .var false [.fsl nl cl 1 xs], .row 0 false 1 l]
abbrev woV (i0 s n k : Int) : List IV := [.int .i64 i0, .ptr 1 0, .int .i64 s, .osl 2 0, .int .i64 n, .int .i64 k]
theorem wo_in (sp : FuncId → Option SpecF) (nl : Option Bool) (cl : Bool) (xs l : List IV) (i0 s n k : Int) : Rp 3 sp 30 58 (Sx 30 (woV i0 s n k) (grB nl cl xs l)) =
  (bif decide (k < n) then
     bif decide ((0 : Int) ≤ k ∧ k < (↑l.length : Int)) then
       bif decide (k.toNat < l.length) then
         bif isOf (LT.i IntKind.i64) (nthD (List.drop (0 : Nat) (nthD l k.toNat).cells) (0 : Nat)) then
           bif decide ((1 : Nat) = (1 : Nat) ∧ (0 : Int) ≤ i0 ∧ i0 < (↑xs.length : Int)) then
             bif isOf (LT.i IntKind.i64) (nthD (nthD xs i0.toNat).cells (0 : Nat)) then
               bif
                   decide
                     ((1 : Nat) = (1 : Nat) ∧
                       (0 : Int) ≤ Im.intOf (nthD (List.drop (0 : Nat) (nthD l k.toNat).cells) (0 : Nat)) ∧
                         Im.intOf (nthD (List.drop (0 : Nat) (nthD l k.toNat).cells) (0 : Nat)) < (↑xs.length : Int)) then
                 bif
                     isOf (LT.i IntKind.i64)
                       (nthD (nthD xs (Im.intOf (nthD (List.drop (0 : Nat) (nthD l k.toNat).cells) (0 : Nat))).toNat).cells
                         (0 : Nat)) then
                   some
                     (Ex.normal,
                       Sx (30 : Nat)
                         [IV.int IntKind.i64 i0, IV.ptr (nat_lit 1) (nat_lit 0),
                           IV.int IntKind.i64
                             (IntKind.i64.wrap
                               (s +
                                 bif
                                     decide
                                       (IntKind.i64.wrap
                                           ((0 : Int) -
                                             IntKind.i64.wrap
                                               (Im.intOf (nthD (nthD xs i0.toNat).cells (0 : Nat)) -
                                                 Im.intOf
                                                   (nthD
                                                     (nthD xs
                                                         (Im.intOf
                                                             (nthD (List.drop (0 : Nat) (nthD l k.toNat).cells)
                                                               (0 : Nat))).toNat).cells
                                                     (0 : Nat)))) >
                                         IntKind.i64.wrap
                                           (Im.intOf (nthD (nthD xs i0.toNat).cells (0 : Nat)) -
                                             Im.intOf
                                               (nthD
                                                 (nthD xs
                                                     (Im.intOf
                                                         (nthD (List.drop (0 : Nat) (nthD l k.toNat).cells)
                                                           (0 : Nat))).toNat).cells
                                                 (0 : Nat)))) then
                                   IntKind.i64.wrap
                                     ((0 : Int) -
                                       IntKind.i64.wrap
                                         (Im.intOf (nthD (nthD xs i0.toNat).cells (0 : Nat)) -
                                           Im.intOf
                                             (nthD
                                               (nthD xs
                                                   (Im.intOf
                                                       (nthD (List.drop (0 : Nat) (nthD l k.toNat).cells)
                                                         (0 : Nat))).toNat).cells
                                               (0 : Nat))))
                                 else
                                   IntKind.i64.wrap
                                     (Im.intOf (nthD (nthD xs i0.toNat).cells (0 : Nat)) -
                                       Im.intOf
                                         (nthD
                                           (nthD xs
                                               (Im.intOf
                                                   (nthD (List.drop (0 : Nat) (nthD l k.toNat).cells)
                                                     (0 : Nat))).toNat).cells
                                           (0 : Nat))))),
                           IV.osl (nat_lit 2) (nat_lit 0), IV.int IntKind.i64 n,
                           IV.int IntKind.i64 (IntKind.i64.wrap (k + (1 : Int)))]
                         [Blk.var false [IV.osl (nat_lit 2) (nat_lit 0)], Blk.var false [IV.fsl nl cl (nat_lit 1) xs],
                           Blk.row (nat_lit 0) false (nat_lit 1) l])
                 else none
               else none
             else none
           else none
         else none
       else none
     else none
   else
     some
       (Ex.exit (nat_lit 0),
         Sx (30 : Nat)
           [IV.int IntKind.i64 i0, IV.ptr (nat_lit 1) (nat_lit 0), IV.int IntKind.i64 s, IV.osl (nat_lit 2) (nat_lit 0),
             IV.int IntKind.i64 n, IV.int IntKind.i64 k]
           [Blk.var false [IV.osl (nat_lit 2) (nat_lit 0)], Blk.var false [IV.fsl nl cl (nat_lit 1) xs],
             Blk.row (nat_lit 0) false (nat_lit 1) l])) := by kernel_rfl
theorem wo_call (nl : Option Bool) (cl : Bool) (xs l : List IV) (i0 s : Int) : callK Try.prog hint (tab []) (ltab [(30, 58, LF 30 3 (oneF (woV i0 0 (l.length : Int) 0) (grB nl cl xs l) (.exit 0) (woV i0 s (l.length : Int) (l.length : Int)) (grB nl cl xs l)))]) 30 30 [.int .i64 i0, .ptr 0 0, .ptr 1 0] (grB nl cl xs l) (fun v T => some (v, T)) =
    bif sameS (woV i0 0 (l.length : Int) 0) (grB nl cl xs l) then some (.int .i64 s, grB nl cl xs l) else none := by kernel_rfl
def woP (c : List IV → List IV → Int → Bool) (w : List IV → List IV → Int → Int) : SpecF := fun us T => match us, T with
  | [.int .i64 i, .ptr 0 0, .ptr 1 0], [.var false [.osl 2 0], .var false [.fsl nl cl 1 xs], .row 0 false 1 l] => [(c xs l i, .int .i64 (w xs l i), [.var false [.osl 2 0], .var false [.fsl nl cl 1 xs], .row 0 false 1 l])]
  | _, _ => []
abbrev grV (at_ best n i : Int) : List IV := [.fn 30 [.ptr 0 0, .ptr 1 0], .int .i64 at_, .int .i64 best, .osl 2 0, .int .i64 n, .int .i64 i]
theorem gr_in (c : List IV → List IV → Int → Bool) (w : List IV → List IV → Int → Int) (nl : Option Bool) (cl : Bool) (xs l : List IV) (at_ best n i : Int) : Rp 3 (tab [(30, woP c w)]) 29 58 (Sx 29 (grV at_ best n i) (grB nl cl xs l)) =
  (bif decide (i < n) then
     bif decide ((0 : Int) ≤ i ∧ i < (↑l.length : Int)) then
       bif decide (i.toNat < l.length) then
         bif isOf (LT.i IntKind.i64) (nthD (List.drop (0 : Nat) (nthD l i.toNat).cells) (0 : Nat)) then
           bif c xs l (Im.intOf (nthD (List.drop (0 : Nat) (nthD l i.toNat).cells) (0 : Nat))) then
             bif decide (w xs l (Im.intOf (nthD (List.drop (0 : Nat) (nthD l i.toNat).cells) (0 : Nat))) ≥ best) then
               some
                 (Ex.normal,
                   Sx (29 : Nat)
                     [IV.fn (nat_lit 30) [IV.ptr (nat_lit 0) (nat_lit 0), IV.ptr (nat_lit 1) (nat_lit 0)],
                       IV.int IntKind.i64 i,
                       IV.int IntKind.i64
                         (w xs l (Im.intOf (nthD (List.drop (0 : Nat) (nthD l i.toNat).cells) (0 : Nat)))),
                       IV.osl (nat_lit 2) (nat_lit 0), IV.int IntKind.i64 n,
                       IV.int IntKind.i64 (IntKind.i64.wrap (i + (1 : Int)))]
                     [Blk.var false [IV.osl (nat_lit 2) (nat_lit 0)], Blk.var false [IV.fsl nl cl (nat_lit 1) xs],
                       Blk.row (nat_lit 0) false (nat_lit 1) l])
             else
               some
                 (Ex.normal,
                   Sx (29 : Nat)
                     [IV.fn (nat_lit 30) [IV.ptr (nat_lit 0) (nat_lit 0), IV.ptr (nat_lit 1) (nat_lit 0)],
                       IV.int IntKind.i64 at_, IV.int IntKind.i64 best, IV.osl (nat_lit 2) (nat_lit 0),
                       IV.int IntKind.i64 n, IV.int IntKind.i64 (IntKind.i64.wrap (i + (1 : Int)))]
                     [Blk.var false [IV.osl (nat_lit 2) (nat_lit 0)], Blk.var false [IV.fsl nl cl (nat_lit 1) xs],
                       Blk.row (nat_lit 0) false (nat_lit 1) l])
           else none
         else none
       else none
     else none
   else
     some
       (Ex.exit (nat_lit 0),
         Sx (29 : Nat)
           [IV.fn (nat_lit 30) [IV.ptr (nat_lit 0) (nat_lit 0), IV.ptr (nat_lit 1) (nat_lit 0)], IV.int IntKind.i64 at_,
             IV.int IntKind.i64 best, IV.osl (nat_lit 2) (nat_lit 0), IV.int IntKind.i64 n, IV.int IntKind.i64 i]
           [Blk.var false [IV.osl (nat_lit 2) (nat_lit 0)], Blk.var false [IV.fsl nl cl (nat_lit 1) xs],
             Blk.row (nat_lit 0) false (nat_lit 1) l])) := by kernel_rfl
theorem gr_call (c : List IV → List IV → Int → Bool) (w : List IV → List IV → Int → Int) (nl : Option Bool) (cl : Bool) (xs l : List IV) (at_ best : Int) : callK Try.prog hint (tab [(30, woP c w)]) (ltab [(29, 58, LF 29 3 (oneF (grV (-1) (-1) (l.length : Int) 0) (grB nl cl xs l) (.exit 0) (grV at_ best (l.length : Int) (l.length : Int)) (grB nl cl xs l)))]) 30 29 [.osl 2 0, .fn 30 [.ptr 0 0, .ptr 1 0]] (grB nl cl xs l) (fun v T => some (v, T)) =
    bif sameS (grV (-1) (-1) (l.length : Int) 0) (grB nl cl xs l) then some (.tup [.int .i64 at_, .int .i64 best], grB nl cl xs l) else none := by kernel_rfl
def grP (c : List IV → List IV → Bool) (ga gb : List IV → List IV → Int) : SpecF := fun us T => match us, T with
  | [.osl 2 0, .fn 30 [.ptr 0 0, .ptr 1 0]], [.var false [.osl 2 0], .var false [.fsl nl cl 1 xs], .row 0 false 1 l] => [(c xs l, .tup [.int .i64 (ga xs l), .int .i64 (gb xs l)], [.var false [.osl 2 0], .var false [.fsl nl cl 1 xs], .row 0 false 1 l])]
  | _, _ => []
/-! ### Cluster -/
def fitQ (c : Nat → List IV → Nat → List IV → Bool) (g : List IV → List IV → Bool) : SpecF := fun us T => match us, T with
  | [.fsl nl cl z xs, .fsl nl' cl' z' ys], [] => [(c z xs z' ys, .bool (g xs ys), [])]
  | _, _ => []
abbrev tabQ (cf : Nat → List IV → Nat → List IV → Bool) (gf : List IV → List IV → Bool) (c : List IV → List IV → Bool) (ga gb : List IV → List IV → Int) (cd : List IV → Int → Int → Bool) (gd : List IV → Int → List IV) : FuncId → Option SpecF := tab [(27, fitQ cf gf), (29, grP c ga gb), (31, delP cd gd)]
abbrev clB (nl : Option Bool) (cl : Bool) (xs l : List IV) : List Blk := [.var false [.fsl nl cl 1 xs], .var false [.osl 2 0], .row 0 false 1 l]
abbrev clV (nl : Option Bool) (cl : Bool) (ys : List IV) (least : Int) (a b c : IV) (n i : Int) (d e f : IV) : List IV := [.fsl nl cl 1 ys, .int .i64 least, .ptr 0 0, .ptr 1 0, a, b, c, .int .i64 n, .int .i64 i, d, e, f]
theorem fl_in (sp : FuncId → Option SpecF) (nl : Option Bool) (cl : Bool) (xs : List IV) (nl' : Option Bool) (cl' : Bool) (ys l : List IV) (least n i : Int) : Rp 0 sp 20 122 (Sx 20 (clV nl' cl' ys least .undef .undef .undef n i .undef .undef .undef) (clB nl cl xs l)) =
  (bif decide (i < n) then
     bif
         decide
           ((l.length + [IV.int IntKind.i64 i].length) * (8 : Nat) ≤ roomB ∧
             l.length + [IV.int IntKind.i64 i].length ≤ maxLen) then
       some
         (Ex.normal,
           Sx (20 : Nat)
             [IV.fsl nl' cl' (nat_lit 1) ys, IV.int IntKind.i64 least, IV.ptr (nat_lit 0) (nat_lit 0),
               IV.ptr (nat_lit 1) (nat_lit 0), IV.undef, IV.undef, IV.undef, IV.int IntKind.i64 n,
               IV.int IntKind.i64 (IntKind.i64.wrap (i + (1 : Int))), IV.undef, IV.undef, IV.undef]
             [Blk.var false [IV.fsl nl cl (nat_lit 1) xs], Blk.var false [IV.osl (nat_lit 2) (nat_lit 0)],
               Blk.row (nat_lit 0) false (nat_lit 1) (l ++ [IV.int IntKind.i64 i])])
     else none
   else
     some
       (Ex.exit (nat_lit 0),
         Sx (20 : Nat)
           [IV.fsl nl' cl' (nat_lit 1) ys, IV.int IntKind.i64 least, IV.ptr (nat_lit 0) (nat_lit 0),
             IV.ptr (nat_lit 1) (nat_lit 0), IV.undef, IV.undef, IV.undef, IV.int IntKind.i64 n, IV.int IntKind.i64 i,
             IV.undef, IV.undef, IV.undef]
           [Blk.var false [IV.fsl nl cl (nat_lit 1) xs], Blk.var false [IV.osl (nat_lit 2) (nat_lit 0)],
             Blk.row (nat_lit 0) false (nat_lit 1) l])) := by kernel_rfl
theorem nr_in (sp : FuncId → Option SpecF) (nl : Option Bool) (cl : Bool) (xs : List IV) (nl' : Option Bool) (cl' : Bool) (ys l : List IV) (least a b c n i m k : Int) : Rp 0 sp 20 31834 (Sx 20 (clV nl' cl' ys least (.int .i64 a) (.int .i64 b) (.int .i64 c) n i (.osl 2 0) (.int .i64 m) (.int .i64 k)) (clB nl cl xs l)) =
  (bif decide (k < m) then
     bif decide ((0 : Int) ≤ k ∧ k < (↑l.length : Int)) then
       bif decide (k.toNat < l.length) then
         bif isOf (LT.i IntKind.i64) (nthD (List.drop (0 : Nat) (nthD l k.toNat).cells) (0 : Nat)) then
           bif
               decide
                 ((1 : Nat) = (1 : Nat) ∧
                   (0 : Int) ≤ Im.intOf (nthD (List.drop (0 : Nat) (nthD l k.toNat).cells) (0 : Nat)) ∧
                     Im.intOf (nthD (List.drop (0 : Nat) (nthD l k.toNat).cells) (0 : Nat)) < (↑ys.length : Int)) then
             bif
                 isOf (LT.i IntKind.i64)
                   (nthD (nthD ys (Im.intOf (nthD (List.drop (0 : Nat) (nthD l k.toNat).cells) (0 : Nat))).toNat).cells
                     (0 : Nat)) then
               some
                 (Ex.normal,
                   Sx (20 : Nat)
                     [IV.fsl nl' cl' (nat_lit 1) ys, IV.int IntKind.i64 least, IV.ptr (nat_lit 0) (nat_lit 0),
                       IV.ptr (nat_lit 1) (nat_lit 0), IV.int IntKind.i64 a, IV.int IntKind.i64 b,
                       IV.int IntKind.i64
                         (bif
                             decide
                               (Im.intOf
                                   (nthD
                                     (nthD ys
                                         (Im.intOf
                                             (nthD (List.drop (0 : Nat) (nthD l k.toNat).cells) (0 : Nat))).toNat).cells
                                     (0 : Nat)) <
                                 c) then
                           Im.intOf
                             (nthD
                               (nthD ys
                                   (Im.intOf (nthD (List.drop (0 : Nat) (nthD l k.toNat).cells) (0 : Nat))).toNat).cells
                               (0 : Nat))
                         else c),
                       IV.int IntKind.i64 n, IV.int IntKind.i64 i, IV.osl (nat_lit 2) (nat_lit 0), IV.int IntKind.i64 m,
                       IV.int IntKind.i64 (IntKind.i64.wrap (k + (1 : Int)))]
                     [Blk.var false [IV.fsl nl cl (nat_lit 1) xs], Blk.var false [IV.osl (nat_lit 2) (nat_lit 0)],
                       Blk.row (nat_lit 0) false (nat_lit 1) l])
             else none
           else none
         else none
       else none
     else none
   else
     some
       (Ex.exit (nat_lit 4),
         Sx (20 : Nat)
           [IV.fsl nl' cl' (nat_lit 1) ys, IV.int IntKind.i64 least, IV.ptr (nat_lit 0) (nat_lit 0),
             IV.ptr (nat_lit 1) (nat_lit 0), IV.int IntKind.i64 a, IV.int IntKind.i64 b, IV.int IntKind.i64 c,
             IV.int IntKind.i64 n, IV.int IntKind.i64 i, IV.osl (nat_lit 2) (nat_lit 0), IV.int IntKind.i64 m,
             IV.int IntKind.i64 k]
           [Blk.var false [IV.fsl nl cl (nat_lit 1) xs], Blk.var false [IV.osl (nat_lit 2) (nat_lit 0)],
             Blk.row (nat_lit 0) false (nat_lit 1) l])) := by kernel_rfl
theorem cl_r0 (nl : Option Bool) (cl : Bool) (xs : List IV) (nl' : Option Bool) (cl' : Bool) (ys l : List IV) (least near n i : Int) (cf : Nat → List IV → Nat → List IV → Bool) (gf : List IV → List IV → Bool) (c : List IV → List IV → Bool) (ga gb : List IV → List IV → Int) (cd : List IV → Int → Int → Bool) (gd : List IV → Int → List IV) : Rl (tabQ cf gf c ga gb cd gd) (ltab [(20, 31834, LF 20 0 (oneF (clV nl' cl' ys least (.int .i64 (ga xs l)) (.int .i64 (gb xs l)) (.int .i64 1099511627776) n i (.osl 2 0) (.int .i64 (l.length : Int)) (.int .i64 0)) (clB nl cl xs l) (.exit 4) (clV nl' cl' ys least (.int .i64 (ga xs l)) (.int .i64 (gb xs l)) (.int .i64 near) n i (.osl 2 0) (.int .i64 (l.length : Int)) (.int .i64 (l.length : Int))) (clB nl cl xs l)))]) 0 20 124 (Sx 20 (clV nl' cl' ys least .undef .undef .undef n i .undef .undef .undef) (clB nl cl xs l)) =
  (bif decide ((↑l.length : Int) > least) then
     bif c xs l then
       bif sameS (clV nl' cl' ys least (.int .i64 (ga xs l)) (.int .i64 (gb xs l)) (.int .i64 1099511627776) n i (.osl 2 0) (.int .i64 (l.length : Int)) (.int .i64 0)) (clB nl cl xs l) then
         bif decide (gb xs l ≤ IntKind.i64.wrap (near * IntKind.i64.wrap ((↑l.length : Int) - (1 : Int)))) then
           some
             (Ex.exit (nat_lit 2),
               Sx (20 : Nat)
                 [IV.fsl nl' cl' (nat_lit 1) ys, IV.int IntKind.i64 least, IV.ptr (nat_lit 0) (nat_lit 0),
                   IV.ptr (nat_lit 1) (nat_lit 0), IV.int IntKind.i64 (ga xs l), IV.int IntKind.i64 (gb xs l),
                   IV.int IntKind.i64 near, IV.int IntKind.i64 n, IV.int IntKind.i64 i, IV.osl (nat_lit 2) (nat_lit 0),
                   IV.int IntKind.i64 (↑l.length : Int), IV.int IntKind.i64 (↑l.length : Int)]
                 [Blk.var false [IV.fsl nl cl (nat_lit 1) xs], Blk.var false [IV.osl (nat_lit 2) (nat_lit 0)],
                   Blk.row (nat_lit 0) false (nat_lit 1) l])
         else
           bif cd l (ga xs l) (IntKind.i64.wrap (ga xs l + (1 : Int))) then
             some
               (Ex.normal,
                 Sx (20 : Nat)
                   [IV.fsl nl' cl' (nat_lit 1) ys, IV.int IntKind.i64 least, IV.ptr (nat_lit 0) (nat_lit 0),
                     IV.ptr (nat_lit 1) (nat_lit 0), IV.int IntKind.i64 (ga xs l), IV.int IntKind.i64 (gb xs l),
                     IV.int IntKind.i64 near, IV.int IntKind.i64 n, IV.int IntKind.i64 i, IV.undef,
                     IV.int IntKind.i64 (↑l.length : Int), IV.int IntKind.i64 (↑l.length : Int)]
                   [Blk.var false [IV.fsl nl cl (nat_lit 1) xs], Blk.var false [IV.osl (nat_lit 2) (nat_lit 0)],
                     Blk.row (nat_lit 0) false (nat_lit 1) (gd l (ga xs l))])
           else none
       else none
     else none
   else
     some
       (Ex.exit (nat_lit 2),
         Sx (20 : Nat)
           [IV.fsl nl' cl' (nat_lit 1) ys, IV.int IntKind.i64 least, IV.ptr (nat_lit 0) (nat_lit 0),
             IV.ptr (nat_lit 1) (nat_lit 0), IV.undef, IV.undef, IV.undef, IV.int IntKind.i64 n, IV.int IntKind.i64 i,
             IV.undef, IV.undef, IV.undef]
           [Blk.var false [IV.fsl nl cl (nat_lit 1) xs], Blk.var false [IV.osl (nat_lit 2) (nat_lit 0)],
             Blk.row (nat_lit 0) false (nat_lit 1) l])) := by kernel_rfl
theorem cl_r1 (nl : Option Bool) (cl : Bool) (xs : List IV) (nl' : Option Bool) (cl' : Bool) (ys l : List IV) (least near n i a1 a2 a3 a4 a5 : Int) (cf : Nat → List IV → Nat → List IV → Bool) (gf : List IV → List IV → Bool) (c : List IV → List IV → Bool) (ga gb : List IV → List IV → Int) (cd : List IV → Int → Int → Bool) (gd : List IV → Int → List IV) : Rl (tabQ cf gf c ga gb cd gd) (ltab [(20, 31834, LF 20 0 (oneF (clV nl' cl' ys least (.int .i64 (ga xs l)) (.int .i64 (gb xs l)) (.int .i64 1099511627776) n i (.osl 2 0) (.int .i64 (l.length : Int)) (.int .i64 0)) (clB nl cl xs l) (.exit 4) (clV nl' cl' ys least (.int .i64 (ga xs l)) (.int .i64 (gb xs l)) (.int .i64 near) n i (.osl 2 0) (.int .i64 (l.length : Int)) (.int .i64 (l.length : Int))) (clB nl cl xs l)))]) 0 20 124 (Sx 20 (clV nl' cl' ys least (.int .i64 a1) (.int .i64 a2) (.int .i64 a3) n i .undef (.int .i64 a4) (.int .i64 a5)) (clB nl cl xs l)) =
  (bif decide ((↑l.length : Int) > least) then
     bif c xs l then
       bif sameS (clV nl' cl' ys least (.int .i64 (ga xs l)) (.int .i64 (gb xs l)) (.int .i64 1099511627776) n i (.osl 2 0) (.int .i64 (l.length : Int)) (.int .i64 0)) (clB nl cl xs l) then
         bif decide (gb xs l ≤ IntKind.i64.wrap (near * IntKind.i64.wrap ((↑l.length : Int) - (1 : Int)))) then
           some
             (Ex.exit (nat_lit 2),
               Sx (20 : Nat)
                 [IV.fsl nl' cl' (nat_lit 1) ys, IV.int IntKind.i64 least, IV.ptr (nat_lit 0) (nat_lit 0),
                   IV.ptr (nat_lit 1) (nat_lit 0), IV.int IntKind.i64 (ga xs l), IV.int IntKind.i64 (gb xs l),
                   IV.int IntKind.i64 near, IV.int IntKind.i64 n, IV.int IntKind.i64 i, IV.osl (nat_lit 2) (nat_lit 0),
                   IV.int IntKind.i64 (↑l.length : Int), IV.int IntKind.i64 (↑l.length : Int)]
                 [Blk.var false [IV.fsl nl cl (nat_lit 1) xs], Blk.var false [IV.osl (nat_lit 2) (nat_lit 0)],
                   Blk.row (nat_lit 0) false (nat_lit 1) l])
         else
           bif cd l (ga xs l) (IntKind.i64.wrap (ga xs l + (1 : Int))) then
             some
               (Ex.normal,
                 Sx (20 : Nat)
                   [IV.fsl nl' cl' (nat_lit 1) ys, IV.int IntKind.i64 least, IV.ptr (nat_lit 0) (nat_lit 0),
                     IV.ptr (nat_lit 1) (nat_lit 0), IV.int IntKind.i64 (ga xs l), IV.int IntKind.i64 (gb xs l),
                     IV.int IntKind.i64 near, IV.int IntKind.i64 n, IV.int IntKind.i64 i, IV.undef,
                     IV.int IntKind.i64 (↑l.length : Int), IV.int IntKind.i64 (↑l.length : Int)]
                   [Blk.var false [IV.fsl nl cl (nat_lit 1) xs], Blk.var false [IV.osl (nat_lit 2) (nat_lit 0)],
                     Blk.row (nat_lit 0) false (nat_lit 1) (gd l (ga xs l))])
           else none
       else none
     else none
   else
     some
       (Ex.exit (nat_lit 2),
         Sx (20 : Nat)
           [IV.fsl nl' cl' (nat_lit 1) ys, IV.int IntKind.i64 least, IV.ptr (nat_lit 0) (nat_lit 0),
             IV.ptr (nat_lit 1) (nat_lit 0), IV.int IntKind.i64 a1, IV.int IntKind.i64 a2, IV.int IntKind.i64 a3,
             IV.int IntKind.i64 n, IV.int IntKind.i64 i, IV.undef, IV.int IntKind.i64 a4, IV.int IntKind.i64 a5]
           [Blk.var false [IV.fsl nl cl (nat_lit 1) xs], Blk.var false [IV.osl (nat_lit 2) (nat_lit 0)],
             Blk.row (nat_lit 0) false (nat_lit 1) l])) := by kernel_rfl
def clR (cf : Nat → List IV → Nat → List IV → Bool) (gf : List IV → List IV → Bool) (xs ys : List IV) (least : Int) (r : Option (IV × List Blk)) : Option (IV × List Blk) :=
  bif cf 1 xs 1 ys then bif (bif !gf xs ys then true else decide (least < (1 : Int))) then some (.tup [.fsl (some true) true 0 [], .int .i64 1], []) else r else none
abbrev cl0 (nl : Option Bool) (cl : Bool) (xs : List IV) (nl' : Option Bool) (cl' : Bool) (ys : List IV) (least : Int) : List IV := clV nl' cl' ys least .undef .undef .undef (xs.length : Int) (xs.length : Int) .undef .undef .undef
abbrev cl1 (nl : Option Bool) (cl : Bool) (xs : List IV) (nl' : Option Bool) (cl' : Bool) (ys : List IV) (least a b c e f : Int) : List IV := clV nl' cl' ys least (.int .i64 a) (.int .i64 b) (.int .i64 c) (xs.length : Int) (xs.length : Int) .undef (.int .i64 e) (.int .i64 f)
abbrev cl2 (nl : Option Bool) (cl : Bool) (xs : List IV) (nl' : Option Bool) (cl' : Bool) (ys : List IV) (least a b c e f : Int) : List IV := clV nl' cl' ys least (.int .i64 a) (.int .i64 b) (.int .i64 c) (xs.length : Int) (xs.length : Int) (.osl 2 0) (.int .i64 e) (.int .i64 f)
noncomputable abbrev clF (nl : Option Bool) (cl : Bool) (xs : List IV) (nl' : Option Bool) (cl' : Bool) (ys l : List IV) (least : Int) (vs : List IV) (bx : List Blk) : FuncId → Nat → Option LoopF := ltab [(20, 122, LF 20 0 (oneF (clV nl' cl' ys least .undef .undef .undef (xs.length : Int) 0 .undef .undef .undef) (clB nl cl xs []) (.exit 0) (cl0 nl cl xs nl' cl' ys least) (clB nl cl xs l))), (20, 124, LF 20 0 (oneF (cl0 nl cl xs nl' cl' ys least) (clB nl cl xs l) (.exit 2) vs bx))]
noncomputable abbrev clE (nl : Option Bool) (cl : Bool) (xs : List IV) (nl' : Option Bool) (cl' : Bool) (ys l l' : List IV) (least : Int) (cf : Nat → List IV → Nat → List IV → Bool) (gf : List IV → List IV → Bool) : Option (IV × List Blk) := clR cf gf xs ys least (bif sameS (clV nl' cl' ys least .undef .undef .undef (xs.length : Int) 0 .undef .undef .undef) (clB nl cl xs []) then bif sameS (cl0 nl cl xs nl' cl' ys least) (clB nl cl xs l) then some (.tup [.osl 0 0, .int .i64 0], [.row 0 false 1 l']) else none else none)
noncomputable abbrev clC (ls : FuncId → Nat → Option LoopF) (nl : Option Bool) (cl : Bool) (xs : List IV) (nl' : Option Bool) (cl' : Bool) (ys : List IV) (least : Int) (cf : Nat → List IV → Nat → List IV → Bool) (gf : List IV → List IV → Bool) (c : List IV → List IV → Bool) (ga gb : List IV → List IV → Int) (cd : List IV → Int → Int → Bool) (gd : List IV → Int → List IV) : Option (IV × List Blk) := callK Try.prog hint (tabQ cf gf c ga gb cd gd) ls 30 20 [.fsl nl cl 1 xs, .fsl nl' cl' 1 ys, .int .i64 least] [] (fun v T => some (v, T))
theorem cl_bad (nl : Option Bool) (cl : Bool) (xs : List IV) (nl' : Option Bool) (cl' : Bool) (ys : List IV) (least : Int) (cf : Nat → List IV → Nat → List IV → Bool) (gf : List IV → List IV → Bool) (c : List IV → List IV → Bool) (ga gb : List IV → List IV → Int) (cd : List IV → Int → Int → Bool) (gd : List IV → Int → List IV) : clC (ltab [(20, 122, noL)]) nl cl xs nl' cl' ys least cf gf c ga gb cd gd = clR cf gf xs ys least none := by kernel_rfl
theorem cl_call0 (nl : Option Bool) (cl : Bool) (xs : List IV) (nl' : Option Bool) (cl' : Bool) (ys l l' : List IV) (least : Int) (cf : Nat → List IV → Nat → List IV → Bool) (gf : List IV → List IV → Bool) (c : List IV → List IV → Bool) (ga gb : List IV → List IV → Int) (cd : List IV → Int → Int → Bool) (gd : List IV → Int → List IV) : clC (clF nl cl xs nl' cl' ys l least (cl0 nl cl xs nl' cl' ys least) (clB nl cl xs l')) nl cl xs nl' cl' ys least cf gf c ga gb cd gd = clE nl cl xs nl' cl' ys l l' least cf gf := by kernel_rfl
theorem cl_call1 (nl : Option Bool) (cl : Bool) (xs : List IV) (nl' : Option Bool) (cl' : Bool) (ys l l' : List IV) (least a b c0 e f : Int) (cf : Nat → List IV → Nat → List IV → Bool) (gf : List IV → List IV → Bool) (c : List IV → List IV → Bool) (ga gb : List IV → List IV → Int) (cd : List IV → Int → Int → Bool) (gd : List IV → Int → List IV) : clC (clF nl cl xs nl' cl' ys l least (cl1 nl cl xs nl' cl' ys least a b c0 e f) (clB nl cl xs l')) nl cl xs nl' cl' ys least cf gf c ga gb cd gd = clE nl cl xs nl' cl' ys l l' least cf gf := by kernel_rfl
theorem cl_call2 (nl : Option Bool) (cl : Bool) (xs : List IV) (nl' : Option Bool) (cl' : Bool) (ys l l' : List IV) (least a b c0 e f : Int) (cf : Nat → List IV → Nat → List IV → Bool) (gf : List IV → List IV → Bool) (c : List IV → List IV → Bool) (ga gb : List IV → List IV → Int) (cd : List IV → Int → Int → Bool) (gd : List IV → Int → List IV) : clC (clF nl cl xs nl' cl' ys l least (cl2 nl cl xs nl' cl' ys least a b c0 e f) (clB nl cl xs l')) nl cl xs nl' cl' ys least cf gf c ga gb cd gd = clE nl cl xs nl' cl' ys l l' least cf gf := by kernel_rfl
end Go.Proofs.Ytfcedalbamafiaa
