/- DerInside: what is done. It bears no condition. -/
import Derived.Test.YtolpgbgmldpneaaDsC
namespace Go.Proofs.Ytolpgbgmldpneaa
open Go Go.Im
set_option linter.unusedVariables false
set_option linter.unusedSimpArgs false
set_option maxRecDepth 20000
-- FOLD ndV t n1 c1 z1 bs n2 c2 z2 ks <= IV.agg [IV.int IntKind.i64 t, IV.fsl n1 c1 z1 bs, IV.fsl n2 c2 z2 ks]
-- FOLD ndV t' n1' c1' z1' bs' n2' c2' z2' ks' <= IV.agg [IV.int IntKind.i64 t', IV.fsl n1' c1' z1' bs', IV.fsl n2' c2' z2' ks']
-- FOLD (boV (ndV t n1 c1 z1 bs n2 c2 z2 ks) (ndV t' n1' c1' z1' bs' n2' c2' z2' ks')) <= (ndV (48 : Int) (some true) true (0 : Nat) [] none false (3 : Nat) [ndV t n1 c1 z1 bs n2 c2 z2 ks, ndV t' n1' c1' z1' bs' n2' c2' z2' ks'])
def boV (x y : IV) : IV := ndV 48 (some true) true 0 [] none false 3 [x, y]
end Go.Proofs.Ytolpgbgmldpneaa
