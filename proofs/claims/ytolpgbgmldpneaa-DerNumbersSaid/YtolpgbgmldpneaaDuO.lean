/- DerThere runs. It bears no condition. -/
import Derived.Test.YtolpgbgmldpneaaDuN
namespace Go.Proofs.Ytolpgbgmldpneaa
open Go Go.Im
set_option linter.unusedVariables false
set_option linter.unusedSimpArgs false
set_option maxRecDepth 20000
noncomputable section

theorem und39 : Try.prog.underlying 39 = some (.slice 70) := by kernel_rfl
theorem und70 : Try.prog.underlying 70 = some (.int .u64) := by kernel_rfl
theorem und9' : Try.prog.underlying 9 = some .string := by kernel_rfl
theorem arg39 {x : IV} (h : ArgT Try.prog 39 x) : ∃ nl cl l, x = .fsl (some nl) cl 1 l ∧ okW l = true ∧ l.length ≤ 140737488351232 := by
  obtain ⟨n, l, h1, h2, _⟩ := h
  obtain ⟨m, nl, cl, es, rfl, rfl, h3, h4, h5, h6⟩ := ty_slice und39 h1
  have hx := pack_leaf (P := Try.prog) (t := 39) (y := .fsl (some nl) cl (Try.prog.cellsOf 70) es) (by kernel_rfl)
  rw [hx] at h2
  cases h2
  refine ⟨nl, cl, es, by rw [show Try.prog.cellsOf 70 = 1 by kernel_rfl], ?_, ?_⟩
  · unfold okW
    rw [List.all_eq_true]
    intro x hx
    obtain ⟨cs, c1, c2, c3⟩ := h6 x hx
    obtain ⟨i, rfl, i1, i2⟩ := ty_int und70 c3
    have := pack_int und70 c1
    subst this
    have r := Go.Im.range_u64
    exact decide_eq_true ⟨by omega, by omega⟩
  · rw [show Try.prog.bytesOf 70 = 8 by kernel_rfl, reach_val] at h4
    omega
theorem kN_bytes {ls : List Nat} (ho : okL ls) : (nb (valL ls)).length ≤ 8 * ls.length + 1 := by
  have hV := valL_lt ho
  rw [pow64] at hV
  rw [be_len]
  exact (kN_le (by omega)).2 (by rw [Nat.add_sub_cancel]; omega)
end
end Go.Proofs.Ytolpgbgmldpneaa
