/- DerThere and DerNumbers: what is done. It bears no condition. -/
import Derived.Test.YtolpgbgmldpneaaDuL
namespace Go.Proofs.Ytolpgbgmldpneaa
open Go Go.Im
set_option linter.unusedVariables false
set_option linter.unusedSimpArgs false
set_option maxRecDepth 20000
end Go.Proofs.Ytolpgbgmldpneaa
