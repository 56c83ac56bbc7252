/- Values' bytes: the document's fits, the whole call; lengths. It bears no condition. -/
import Derived.Test.YtolpgbgmldpneaaDrF
namespace Go.Proofs.Ytolpgbgmldpneaa
open Go Go.Im
set_option linter.unusedVariables false
set_option linter.unusedSimpArgs false
set_option maxRecDepth 20000
noncomputable section

end
end Go.Proofs.Ytolpgbgmldpneaa
