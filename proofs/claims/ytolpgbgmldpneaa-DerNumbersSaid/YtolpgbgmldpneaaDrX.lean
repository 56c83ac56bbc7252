/- Values counted, written. It bears no condition. -/
import Derived.Test.YtolpgbgmldpneaaDrW
namespace Go.Proofs.Ytolpgbgmldpneaa
open Go Go.Im
set_option linter.unusedVariables false
set_option linter.unusedSimpArgs false
set_option maxRecDepth 20000
noncomputable section

def gCs (x : IV) (m : Int) : Int := ((ndOf x).cnt m).1
def gCd (x : IV) (m : Int) : Int := ((ndOf x).cnt m).2
def gHeavy (x : IV) : Bool := decide (gCs x 400 > 400)
theorem nil_fsl : Wk (.fsl (some true) true 0 []) (.fsl none false 1 []) := Wk.fsl rfl (.inl rfl) (by simp) (.inr rfl)
theorem wk_tup {x y z : IV} (h : Wk x y) : Wk (.tup [x, z]) (.tup [y, z]) := by
  intro Γ w v hr
  simp only [Rep, RepL] at hr ⊢
  obtain ⟨vs, rfl, v1, us, e, h1, h2⟩ := hr
  exact ⟨vs, rfl, v1, us, e, h Γ w v1 h1, h2⟩
end
end Go.Proofs.Ytolpgbgmldpneaa
