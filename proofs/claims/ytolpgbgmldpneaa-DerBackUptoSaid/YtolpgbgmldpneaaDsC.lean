/- Values' bytes tell values apart, in plain words. It bears no condition. -/
import Derived.Test.YtolpgbgmldpneaaDsA
namespace Go.Proofs.Ytolpgbgmldpneaa
open Go Go.Im
set_option linter.unusedVariables false
set_option linter.unusedSimpArgs false
set_option maxRecDepth 20000
noncomputable section

theorem wel_tag {x : Nd} (h : x.wel = true) : 0 ≤ x.tag ∧ x.tag < 256 := by
  rw [wel_mk] at h
  cases hm : gMany x.tag
  · rw [hm] at h
    simp only [Bool.not_false, cond_true, Bool.and_eq_true] at h
    have h2 := h.2
    by_cases t1 : x.tag = 1; · omega
    by_cases t2 : x.tag = 2; · omega
    by_cases t3 : x.tag = 3; · omega
    by_cases t4 : x.tag = 4; · omega
    by_cases t5 : x.tag = 5; · omega
    by_cases t12 : x.tag = 12; · omega
    unfold fitsB at h2
    rw [show (x.tag == 1) = false from beq_eq_false_iff_ne.2 t1, show (x.tag == 2) = false from beq_eq_false_iff_ne.2 t2, show (x.tag == 3) = false from beq_eq_false_iff_ne.2 t3, show (x.tag == 4) = false from beq_eq_false_iff_ne.2 t4, show (x.tag == 5) = false from beq_eq_false_iff_ne.2 t5, show (x.tag == 12) = false from beq_eq_false_iff_ne.2 t12] at h2
    cases h2
  · unfold gMany at hm
    cases h48 : x.tag == 48
    · rw [h48] at hm
      have := eq_of_beq hm
      omega
    · have := eq_of_beq h48
      omega
theorem wr_pos (x : Nd) : x.wr ≠ [] := by rw [wr_mk]; simp
/-- A right value's parts are right. -/
theorem right_wel {x : Nd} (h : (x.rg 16 4096).1 = true) : x.wel = true ∧ (x.num : Int) ≤ 4096 ∧ (x.dp : Int) ≤ 16 := by
  have := (rg_eq x 16 4096 (by omega) (by omega)).1
  rw [this, Bool.and_eq_true, decide_eq_true_eq] at h
  exact h
end
end Go.Proofs.Ytolpgbgmldpneaa
