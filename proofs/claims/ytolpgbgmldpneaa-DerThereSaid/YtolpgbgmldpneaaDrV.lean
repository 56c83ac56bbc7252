/- Which values are right: both programs. It bears no condition. -/
import Derived.Test.YtolpgbgmldpneaaDrS
namespace Go.Proofs.Ytolpgbgmldpneaa
open Go Go.Im
set_option linter.unusedVariables false
set_option linter.unusedSimpArgs false
set_option maxRecDepth 20000
noncomputable section

theorem cN_of {d : Nat} {x : IV} (h : cD d x = true) : cN x = true := by
  unfold cD at h
  simp only [Bool.and_eq_true] at h
  exact h.1
theorem kids_ks {d : Nat} {z : Nat} {ks : List IV} (hz : z = 3 ∨ ks = []) (hl : ks.length ≤ 100000000) (hk : ∀ k ∈ ks, cD d k = true ∧ okNd k = true) : cKs z ks = true := by
  unfold cKs
  rw [decide_eq_true ⟨hz.imp id fun h => by rw [h]; rfl, hl⟩, Bool.true_and, List.all_eq_true]
  exact fun x hx => cN_of (hk x hx).1
theorem cF_of {t : Int} {z : Nat} {b : List UInt8} (hz : z = 1 ∨ b = []) (hl : b.length ≤ 140737488355328) : cFt t z (u8s b) = true := by
  unfold cFt cIx
  rw [okB_u8s, u8s_len, decide_eq_true ⟨hz.imp id fun h => by rw [h]; rfl, hl⟩]; rfl
theorem len0 (b : List UInt8) : (((u8s b).length : Int) == 0) = b.isEmpty := by
  rw [u8s_len]
  cases b with
  | nil => rfl
  | cons x r => simp only [List.length_cons, List.isEmpty_cons]; exact beq_eq_false_iff_ne.2 (by omega)
theorem klen0 {α : Type} (ks : List α) : ((ks.length : Int) == 0) = ks.isEmpty := by
  cases ks with
  | nil => rfl
  | cons x r => simp only [List.length_cons, List.isEmpty_cons]; exact beq_eq_false_iff_ne.2 (by omega)
end
end Go.Proofs.Ytolpgbgmldpneaa
