/- Values' bytes: the document's bytes, the whole call. It bears no condition. -/
import Derived.Test.YtolpgbgmldpneaaDrM
namespace Go.Proofs.Ytolpgbgmldpneaa
open Go Go.Im
set_option linter.unusedVariables false
set_option linter.unusedSimpArgs false
set_option maxRecDepth 20000
noncomputable section

/-! ### How many, how deep -/
mutual
/-- How many there are, counted till there are too many; and how deep. -/
def Nd.cnt : Nd → Int → Int × Int
  | .mk _ _ ks, m => cnts ks m 1 1
def cnts : List Nd → Int → Int → Int → Int × Int
  | [], _, s, d => (s, d)
  | k :: ks, m, s, d => bif decide (s ≤ m) then cnts ks m (s + (k.cnt (m - s)).1) (bif decide ((k.cnt (m - s)).2 ≥ d) then (k.cnt (m - s)).2 + 1 else d) else (s, d)
end
end
end Go.Proofs.Ytolpgbgmldpneaa
