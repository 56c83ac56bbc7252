/- DerWrites at all arguments that are not too great. It bears no condition. -/
import Derived.Test.YtolpgbgmldpneaaDrZ
import Derived.Test.YtolpgbgmldpneaaIm5
namespace Go.Proofs.Ytolpgbgmldpneaa
open Go Go.Im
set_option linter.unusedVariables false
set_option linter.unusedSimpArgs false
set_option maxRecDepth 20000
noncomputable section

/-! ### Same -/
mutual
def Nd.same : Nd → Nd → Bool
  | .mk t b ks, y => t == y.tag && (b == y.bytes && sames ks y.kids)
def sames : List Nd → List Nd → Bool
  | [], [] => true
  | k :: ks, k' :: ks' => k.same k' && sames ks ks'
  | _, _ => false
end

theorem und3 : Try.prog.underlying 3 = some (.int .i64) := by kernel_rfl
def types : List TypeId := [3, 5, 9, 22, 23, 25, 39, 70]
end
end Go.Proofs.Ytolpgbgmldpneaa
