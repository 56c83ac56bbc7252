/- Natural numbers as values, the document's. It bears no condition. -/
import Derived.Test.YtolpgbgmldpneaaDuF
namespace Go.Proofs.Ytolpgbgmldpneaa
open Go Go.Im
set_option linter.unusedVariables false
set_option linter.unusedSimpArgs false
set_option maxRecDepth 20000
noncomputable section

theorem and_beq {a : Nat} : (bif true then ((a : Int) == (0 : Int)) else false) = decide (a = 0) := by
  rw [cond_true, Bool.eq_iff_iff, beq_iff_eq, decide_eq_true_eq]; omega
theorem cell_drop {k : IntKind} {n : Int} : nthD (List.drop 0 (IV.int k n).cells) 0 = .int k n := Eq.trans rfl rfl
end
end Go.Proofs.Ytolpgbgmldpneaa
