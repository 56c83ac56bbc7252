/- Values written, copied, held against each other: what is done. It bears no condition. -/
import Derived.Test.YtolpgbgmldpneaaDrQ
-- FOLD (kdV $) <= (ndV (intOf (nthD $.cells (0 : Nat))) (nlOf (nthD $.cells (1 : Nat))) (clOf (nthD $.cells (1 : Nat))) (szOf (nthD $.cells (1 : Nat))) (rowL (nthD $.cells (1 : Nat))) (nlOf (nthD $.cells (2 : Nat))) (clOf (nthD $.cells (2 : Nat))) (szOf (nthD $.cells (2 : Nat))) (rowL (nthD $.cells (2 : Nat))))
-- SUB (b1 : Bool) => 
-- SUB cstF b1 => oneF [.ptr 0 0, .ptr 1 0, .ptr 2 0, .int .i64 0] (cpB t n1 c1 z1 bs n2 c2 z2 ks [])
-- SUB bif b1 then => bif sameS [.ptr 0 0, .ptr 1 0, .ptr 2 0, .int .i64 0] (cpB t n1 c1 z1 bs n2 c2 z2 ks []) then
-- SUB (b2 : Bool) => 
-- SUB cstF b2 => oneF [.ptr 0 0, .ptr 1 0, .bool false, .int .i64 0] (saB t n1 c1 z1 bs n2 c2 z2 ks t' n1' c1' z1' bs' n2' c2' z2' ks')
-- SUB bif b2 then => bif sameS [.ptr 0 0, .ptr 1 0, .bool false, .int .i64 0] (saB t n1 c1 z1 bs n2 c2 z2 ks t' n1' c1' z1' bs' n2' c2' z2' ks') then
namespace Go.Proofs.Ytolpgbgmldpneaa
open Go Go.Im
set_option linter.unusedVariables false
set_option linter.unusedSimpArgs false
set_option maxRecDepth 20000
theorem right_tree (c : IV → Int → Int → Bool) (g : IV → Int → Int → Bool) (gl : IV → Int → Int → Int) (t : Int) (n1 : Option Bool) (c1 : Bool) (z1 : Nat) (bs : List IV) (n2 : Option Bool) (c2 : Bool) (z2 : Nat) (ks : List IV) : C (tab [(35, rgP c g gl)]) 14 [.agg [.int .i64 t, .fsl n1 c1 z1 bs, .fsl n2 c2 z2 ks]] = (bif c (ndV t n1 c1 z1 bs n2 c2 z2 ks) (16 : Int) (4096 : Int) then some (IV.bool (g (ndV t n1 c1 z1 bs n2 c2 z2 ks) (16 : Int) (4096 : Int)), []) else none) := by kernel_rfl
abbrev cpB (t : Int) (n1 : Option Bool) (c1 : Bool) (z1 : Nat) (bs : List IV) (n2 : Option Bool) (c2 : Bool) (z2 : Nat) (ks kk : List IV) : List Blk := [.var false [.int .i64 t, .fsl n1 c1 z1 bs, .fsl n2 c2 z2 ks], .var false [.int .i64 0, .fsl (some true) true 0 [], .fsl (some true) true 0 []], .var false [.int .i64 t, .osl 3 0, .osl 4 0], .row 0 false 1 bs, .row 0 false 3 kk]
/-! ### Same -/
abbrev saB (t : Int) (n1 : Option Bool) (c1 : Bool) (z1 : Nat) (bs : List IV) (n2 : Option Bool) (c2 : Bool) (z2 : Nat) (ks : List IV) (t' : Int) (n1' : Option Bool) (c1' : Bool) (z1' : Nat) (bs' : List IV) (n2' : Option Bool) (c2' : Bool) (z2' : Nat) (ks' : List IV) : List Blk := [.var false [.int .i64 t, .fsl n1 c1 z1 bs, .fsl n2 c2 z2 ks], .var false [.int .i64 t', .fsl n1' c1' z1' bs', .fsl n2' c2' z2' ks']]
end Go.Proofs.Ytolpgbgmldpneaa
