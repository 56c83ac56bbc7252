/- Values' bytes: what the walks over values do. It bears no condition. -/
import Derived.Test.YtolpgbgmldpneaaDrK
-- SUB (b1 : Bool) => 
-- SUB cstF b1 => oneF [.ptr 0 0, .osl 1 0, .int .i64 0] (ndB t n1 c1 z1 bs n2 c2 z2 ks ++ [.row 0 false 1 bs])
-- SUB bif b1 then => bif sameS [.ptr 0 0, .osl 1 0, .int .i64 0] (ndB t n1 c1 z1 bs n2 c2 z2 ks ++ [.row 0 false 1 bs]) then
-- SUB (b2 : Bool) => 
-- SUB cstF b2 => oneF [.int .i64 m, .ptr 0 0, .int .i64 1, .int .i64 1, .int .i64 0] (ndB t n1 c1 z1 bs n2 c2 z2 ks)
-- SUB bif b2 then => bif sameS [.int .i64 m, .ptr 0 0, .int .i64 1, .int .i64 1, .int .i64 0] (ndB t n1 c1 z1 bs n2 c2 z2 ks) then
-- SUB (b3 : Bool) => 
-- SUB cstF b3 => oneF [.ptr 0 0, .bool false, .int .i64 0] (ndB t n1 c1 z1 bs n2 c2 z2 ks)
-- SUB bif b3 then => bif sameS [.ptr 0 0, .bool false, .int .i64 0] (ndB t n1 c1 z1 bs n2 c2 z2 ks) then
namespace Go.Proofs.Ytolpgbgmldpneaa
open Go Go.Im
set_option linter.unusedVariables false
set_option linter.unusedSimpArgs false
set_option maxRecDepth 20000
/-! ### Well -/
def welP (c : IV → Bool) (g : IV → Bool) : SpecF := fun us T => match us, T with
  | [.agg [.int .i64 t, .fsl n1 c1 z1 bs, .fsl n2 c2 z2 ks]], [] => [(c (ndV t n1 c1 z1 bs n2 c2 z2 ks), .bool (g (ndV t n1 c1 z1 bs n2 c2 z2 ks)), [])]
  | _, _ => []
def ordP (c : Nat → List IV → Bool) (g : List IV → Bool) : SpecF := fun us T => match us, T with
  | [.fsl nl cl z l], [] => [(c z l, .bool (g l), [])]
  | _, _ => []
end Go.Proofs.Ytolpgbgmldpneaa
