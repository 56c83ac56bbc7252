/- The law AuditJudges of the program holds for every input. Conditions: the row's own (the listed package variables are as the program's text lays them). -/
import Derived.Test.YtgbddcdpbgaojaaBeB
import Derived.Test.YtgbddcdpbgaojaaRows
import Derived.ProofKit
import Derived.LaidMore
import Derived.Lay
import Derived.SevenTiedAt
import Derived.Stop.Joined
import Derived.JoinedOf
namespace Go.Proofs.Ytgbddcdpbgaojaa.auditJudges
open Go Go.Im Go.ChangeShapes Go.WideShapes Go.ChangeAt Go.RowKit
set_option linter.unusedVariables false
theorem own : ownKnob Try.prog.godebug = none := by kernel_rfl
set_option maxRecDepth 100000 in
theorem lifted (os : Os) (started : os.Started) (H : Type) (enc : TypeId × Value → H) :
    ReturnsInHanded {} Try.checked os 4 .any (Rows.auditJudgesSpec.pre6 enc Try.prog Try.f4 Rows.auditJudgesRow.domain false) (Rows.auditJudgesSpec.post enc Try.prog Try.f4 false true false false) := by
  refine returnsInHanded_of_change_sized (C := Try.checked) own started (by kernel_rfl) Try.func4
    (ChangeSpec.witness6 (enc := enc) (C := Try.checked) false ⟨#[], #[.slice none 0 0, .slice none 0 0], []⟩ 8 (by kernel_rfl) (by kernel_rfl) (by kernel_rfl) (by kernel_rfl)) ?_
  intro W base args ds gs before hval hW hc hsz _
  exact law_contract (H := hint) (L := types) (tb := 4) fits.order fits.small fits.quiet (ovr_ok tabL_ok) (by kernel_rfl) (by kernel_rfl) (by kernel_rfl) rfl (fun ds hd => by
      match ds, hd with
      | [d0, d1], _ => rfl) rfl Try.underlying4
    auditJudges_run hval hW hsz (fun g x h => by cases h)
theorem over : Rows.auditJudgesRow.holds Try.pinned (OpenSpec.ofChange Rows.auditJudgesSpec) :=
  OpenClaim.holds_of_wide 4 Try.f4 rfl rfl rfl rfl rfl rfl rfl ⟨rfl, rfl, rfl, rfl, rfl⟩ rfl rfl rfl rfl rfl (by kernel_rfl) Try.func4 (by kernel_rfl)
    (of_decide_eq_true (by kernel_rfl)) (by unfold Func.isWrapper; first | (rw [if_pos (by decide +kernel)]; kernel_rfl) | (rw [if_neg (by decide +kernel)]; exact ⟨rfl, rfl⟩))
    (fun os started H enc _ => lifted os started H enc)
theorem proved : Rows.AuditJudgesSaid := over
#print axioms proved
end Go.Proofs.Ytgbddcdpbgaojaa.auditJudges
