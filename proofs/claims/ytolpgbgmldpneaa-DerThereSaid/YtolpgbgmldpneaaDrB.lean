/- Values' bytes: lengths and bytes, what is done. It bears no condition. -/
import Derived.Test.YtolpgbgmldpneaaDrA
-- SUB (b0 : Bool) => 
-- SUB cstF b0 => oneF ([.int .u8 x, .int .i64 n, .bool false, .int .i64 0]) ([])
-- SUB bif b0 then => bif sameS ([.int .u8 x, .int .i64 n, .bool false, .int .i64 0]) ([]) then
-- SUB (b1 : Bool) => 
-- SUB cstF b1 => oneF ([.osl 0 0, .int .i64 0, .int .i64 (IntKind.i64.wrap ((l.length : Int) - 1))]) ([.row 0 false 1 l])
-- SUB bif b1 then => bif sameS ([.osl 0 0, .int .i64 0, .int .i64 (IntKind.i64.wrap ((l.length : Int) - 1))]) ([.row 0 false 1 l]) then
-- SUB (b2 : Bool) => 
-- SUB cstF b2 => oneF ([.osl 0 1, .int .i64 n, .osl 1 0]) ([.row 1 false 1 o, .row 0 false 1 []])
-- SUB bif b2 then => bif sameS ([.osl 0 1, .int .i64 n, .osl 1 0]) ([.row 1 false 1 o, .row 0 false 1 []]) then
-- SUB (b3 : Bool) => 
-- SUB cstF b3 => oneF (ixV nl cl z l 0 (l.length : Int) 0) ([])
-- SUB bif b3 then => bif sameS (ixV nl cl z l 0 (l.length : Int) 0) ([]) then
-- SUB (b4 : Bool) => 
-- SUB cstF b4 => oneF (riV nl cl z l false (l.length : Int) (.int .i64 0)) ([])
-- SUB bif b4 then => bif sameS (riV nl cl z l false (l.length : Int) (.int .i64 0)) ([]) then
-- SUB (b5 : Bool) => 
-- SUB cstF b5 => oneF ([.int .i64 n, .fsl (some true) true 0 [], .int .i64 1, .undef]) ([])
-- SUB bif b5 then => bif sameS ([.int .i64 n, .fsl (some true) true 0 [], .int .i64 1, .undef]) ([]) then
-- SUB (b6 : Bool) => 
-- SUB cstF b6 => oneF ([.int .i64 n, .osl 0 0, .int .i64 k, .int .i64 (IntKind.i64.wrap (k - 1))]) ([.row 0 false 1 [.int .u8 (IntKind.u8.wrap (IntKind.i64.wrap (128 + k)))]])
-- SUB bif b6 then => bif sameS ([.int .i64 n, .osl 0 0, .int .i64 k, .int .i64 (IntKind.i64.wrap (k - 1))]) ([.row 0 false 1 [.int .u8 (IntKind.u8.wrap (IntKind.i64.wrap (128 + k)))]]) then
namespace Go.Proofs.Ytolpgbgmldpneaa
open Go Go.Im
set_option linter.unusedVariables false
set_option linter.unusedSimpArgs false
set_option maxRecDepth 20000
/-! ### The document's fits -/
abbrev riV (nl : Option Bool) (cl : Bool) (z : Nat) (l : List IV) (r : Bool) (n : Int) (i : IV) : List IV := [.fsl nl cl z l, .bool r, .int .i64 n, i]
/-! ### Lengths -/
def revP (c : List IV → Bool) : SpecF := fun us T => match us, T with
  | [.osl 0 0], [.row 0 false 1 l] => [(c l, .tup [], [.row 0 false 1 l.reverse])]
  | _, _ => []
theorem len_in (c : List IV → Bool) (o l : List IV) (n : Int) : Rd (tab [(40, revP c)]) 1 45 60 (Sx 45 [.osl 0 1, .int .i64 n, .osl 1 0] [.row 1 false 1 o, .row 0 false 1 l]) = (bif decide (n > (0 : Int)) then bif decide ((l.length + [IV.int .u8 (IntKind.u8.wrap n)].length) * (1 : Nat) ≤ roomB ∧ l.length + [IV.int .u8 (IntKind.u8.wrap n)].length ≤ maxLen) then some (Ex.normal, Sx (45 : Nat) [IV.osl (nat_lit 0) (nat_lit 1), IV.int .i64 (n.fdiv ((2 : Int) ^ (8 : Nat))), IV.osl (nat_lit 1) (nat_lit 0)] [Blk.row (nat_lit 1) false (nat_lit 1) o, Blk.row (nat_lit 0) false (nat_lit 1) (l ++ [IV.int .u8 (IntKind.u8.wrap n)])]) else none else some (Ex.exit (nat_lit 0), Sx (45 : Nat) [IV.osl (nat_lit 0) (nat_lit 1), IV.int .i64 n, IV.osl (nat_lit 1) (nat_lit 0)] [Blk.row (nat_lit 1) false (nat_lit 1) o, Blk.row (nat_lit 0) false (nat_lit 1) l])) := by kernel_rfl
theorem len_small (o : List IV) (n : Int) : Cb (fun _ => none) (ltab [(45, 60, noL)]) 45 [.osl 0 0, .int .i64 n] [.row 0 false 1 o] = (bif decide (n < (128 : Int)) then bif decide ((o.length + [IV.int .u8 (IntKind.u8.wrap n)].length) * (1 : Nat) ≤ roomB ∧ o.length + [IV.int .u8 (IntKind.u8.wrap n)].length ≤ maxLen) then some (IV.osl (nat_lit 0) (nat_lit 1), [Blk.row (nat_lit 1) false (nat_lit 1) (o ++ [IV.int .u8 (IntKind.u8.wrap n)])]) else none else none) := by kernel_rfl
theorem len_big  (c : List IV → Bool) (o l : List IV) (n : Int) : Cb (tab [(40, revP c)]) (ltab [(45, 60, LF 45 1 (oneF ([.osl 0 1, .int .i64 n, .osl 1 0]) ([.row 1 false 1 o, .row 0 false 1 []]) (.exit 0) [.osl 0 1, .int .i64 0, .osl 1 0] [.row 1 false 1 o, .row 0 false 1 l]))]) 45 [.osl 0 0, .int .i64 n] [.row 0 false 1 o] = (bif decide (n < (128 : Int)) then bif decide ((o.length + [IV.int .u8 (IntKind.u8.wrap n)].length) * (1 : Nat) ≤ roomB ∧ o.length + [IV.int .u8 (IntKind.u8.wrap n)].length ≤ maxLen) then some (IV.osl (nat_lit 0) (nat_lit 1), [Blk.row (nat_lit 1) false (nat_lit 1) (o ++ [IV.int .u8 (IntKind.u8.wrap n)])]) else none else bif sameS ([.osl 0 1, .int .i64 n, .osl 1 0]) ([.row 1 false 1 o, .row 0 false 1 []]) then bif c l then bif scalar (IV.tup []) && [Blk.row (0 : Nat) false (1 : Nat) l.reverse].all scalarB then bif decide ((o.length + [IV.int .u8 (ibits BinOp.or IntKind.u8 (128 : Int) (IntKind.u8.wrap (↑l.reverse.length : Int)))].length) * (1 : Nat) ≤ roomB ∧ o.length + [IV.int .u8 (ibits BinOp.or IntKind.u8 (128 : Int) (IntKind.u8.wrap (↑l.reverse.length : Int)))].length ≤ maxLen) then bif decide (((o ++ [IV.int .u8 (ibits BinOp.or IntKind.u8 (128 : Int) (IntKind.u8.wrap (↑l.reverse.length : Int)))]).length + l.reverse.length) * (1 : Nat) ≤ roomB ∧ (o ++ [IV.int .u8 (ibits BinOp.or IntKind.u8 (128 : Int) (IntKind.u8.wrap (↑l.reverse.length : Int)))]).length + l.reverse.length ≤ maxLen) then some (IV.osl (nat_lit 0) (nat_lit 1), [Blk.row (nat_lit 1) false (nat_lit 1) (o ++ [IV.int .u8 (ibits BinOp.or IntKind.u8 (128 : Int) (IntKind.u8.wrap (↑l.reverse.length : Int)))] ++ l.reverse)]) else none else none else bif decide ((o.length + [IV.int .u8 (ibits BinOp.or IntKind.u8 (128 : Int) (IntKind.u8.wrap (↑l.reverse.length : Int)))].length) * (1 : Nat) ≤ roomB ∧ o.length + [IV.int .u8 (ibits BinOp.or IntKind.u8 (128 : Int) (IntKind.u8.wrap (↑l.reverse.length : Int)))].length ≤ maxLen) then bif decide (((o ++ [IV.int .u8 (ibits BinOp.or IntKind.u8 (128 : Int) (IntKind.u8.wrap (↑l.reverse.length : Int)))]).length + l.reverse.length) * (1 : Nat) ≤ roomB ∧ (o ++ [IV.int .u8 (ibits BinOp.or IntKind.u8 (128 : Int) (IntKind.u8.wrap (↑l.reverse.length : Int)))]).length + l.reverse.length ≤ maxLen) then some (IV.osl (nat_lit 0) (nat_lit 1), [Blk.row (nat_lit 1) false (nat_lit 1) (o ++ [IV.int .u8 (ibits BinOp.or IntKind.u8 (128 : Int) (IntKind.u8.wrap (↑l.reverse.length : Int)))] ++ l.reverse)]) else none else none else none else none) := by kernel_rfl
def lenP (c : List IV → Int → Bool) (g : Int → List IV) : SpecF := fun us T => match us, T with
  | [.osl 0 0, .int .i64 n], [.row 0 false 1 o] => [(c o n, .osl 0 1, [.row 1 false 1 (o ++ g n)])]
  | _, _ => []
theorem ix_no  (nl : Option Bool) (cl : Bool) (z : Nat) (l : List IV) : Cb (fun _ => none) (ltab [(62, 26, LF 62 0 (oneF (ixV nl cl z l 0 (l.length : Int) 0) ([]) (.exit 0) (ixV nl cl z l 0 (l.length : Int) (l.length : Int)) []))]) 62 [.fsl nl cl z l, .fn 57 []] [] = (bif sameS (ixV nl cl z l 0 (l.length : Int) 0) ([]) then some (IV.int .i64 (-1 : Int), []) else none) := by kernel_rfl
theorem ix_yes  (nl : Option Bool) (cl : Bool) (z : Nat) (l : List IV) (i : Int) : Cb (fun _ => none) (ltab [(62, 26, LF 62 0 (oneF (ixV nl cl z l 0 (l.length : Int) 0) ([]) .ret (ixV nl cl z l i (l.length : Int) i) []))]) 62 [.fsl nl cl z l, .fn 57 []] [] = (bif sameS (ixV nl cl z l 0 (l.length : Int) 0) ([]) then some (IV.int .i64 i, []) else none) := by kernel_rfl
end Go.Proofs.Ytolpgbgmldpneaa
