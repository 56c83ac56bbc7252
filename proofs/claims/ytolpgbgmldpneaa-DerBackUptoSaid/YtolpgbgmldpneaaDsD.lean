/- DerInside at all arguments that are not too great. It bears no condition. -/
import Derived.Test.YtolpgbgmldpneaaDsB
namespace Go.Proofs.Ytolpgbgmldpneaa
open Go Go.Im
set_option linter.unusedVariables false
set_option linter.unusedSimpArgs false
set_option maxRecDepth 20000
noncomputable section

theorem bif_t {α : Type} {c : Bool} {a b : α} (h : c = true) : (bif c then a else b) = a := by subst h; rfl
theorem bif_f {α : Type} {c : Bool} {a b : α} (h : c = false) : (bif c then a else b) = b := by subst h; rfl
theorem cN_sz {x : IV} (h : cN x = true) : (ndOf x).sz ≤ 100000000 := by
  unfold cN at h
  rw [Bool.and_eq_true, decide_eq_true_eq] at h
  exact h.2
theorem gW3 (x : IV) : (gRight x = false ∧ gWe x = 3) ∨ (gRight x = true ∧ gWe x = 2) ∨ (gRight x = true ∧ gWe x = 0 ∧ gWr x = u8s (ndOf x).wr ∧ (ndOf x).wr.length ≤ 65535) := by
  cases h : gRight x
  · exact .inl ⟨rfl, (gWr_bad h).2⟩
  · by_cases hl : (ndOf x).wr.length ≤ 65535
    · exact .inr (.inr ⟨rfl, (gWr_ok h hl).2, (gWr_ok h hl).1, hl⟩)
    · exact .inr (.inl ⟨rfl, (gWr_long h hl).2⟩)
theorem u8sT (l : List UInt8) (n : Nat) : (u8s l).take n = u8s (l.take n) := by simp [u8s, List.map_take]
theorem okBs {l : List UInt8} : (decide ((1 : Nat) = 1 ∨ (u8s l).length = 0) && isBytes (u8s l)) = true := by
  rw [isBytes_u8s, decide_eq_true (.inl rfl)]; rfl
end
end Go.Proofs.Ytolpgbgmldpneaa
