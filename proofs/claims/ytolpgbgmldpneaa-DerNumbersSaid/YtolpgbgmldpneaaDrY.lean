/- Values written, copied, and held against each other. It bears no condition. -/
import Derived.Test.YtolpgbgmldpneaaDrX
namespace Go.Proofs.Ytolpgbgmldpneaa
open Go Go.Im
set_option linter.unusedVariables false
set_option linter.unusedSimpArgs false
set_option maxRecDepth 20000
noncomputable section

/-! ### Copy -/
end
end Go.Proofs.Ytolpgbgmldpneaa
