/- Numbers there and back, in plain words. It bears no condition. -/
import Derived.Test.YtolpgbgmldpneaaDuM
namespace Go.Proofs.Ytolpgbgmldpneaa
open Go Go.Im
set_option linter.unusedVariables false
set_option linter.unusedSimpArgs false
set_option maxRecDepth 20000
noncomputable section

end
end Go.Proofs.Ytolpgbgmldpneaa
