/- The law DerNumbers of the program holds for every input. Conditions: the row's own (the listed package variables are as the program's text lays them). -/
import Derived.Test.YtolpgbgmldpneaaDuQ
import Derived.Test.YtolpgbgmldpneaaRows
import Derived.ProofKit
import Derived.LaidMore
import Derived.Lay
import Derived.SevenTiedAt
import Derived.Stop.Joined
import Derived.JoinedOf
namespace Go.Proofs.Ytolpgbgmldpneaa.derNumbers
open Go Go.Im Go.ChangeShapes Go.WideShapes Go.ChangeAt Go.RowKit
set_option linter.unusedVariables false
theorem own : ownKnob Try.prog.godebug = none := by kernel_rfl
set_option maxRecDepth 100000 in
theorem lifted (os : Os) (started : os.Started) (H : Type) (enc : TypeId × Value → H) :
    ReturnsInHanded {} Try.checked os 7 .any (Rows.derNumbersSpec.pre6 enc Try.prog Try.f7 Rows.derNumbersRow.domain false) (Rows.derNumbersSpec.post enc Try.prog Try.f7 false true false false) := by
  refine returnsInHanded_of_change_sized (C := Try.checked) own started (by kernel_rfl) Try.func7
    (ChangeSpec.witness6 (enc := enc) (C := Try.checked) false ⟨#[], #[.int .i64 0, .slice none 0 0, .string ⟨#[]⟩, .agg #[.int .i64 0, .slice none 0 0, .slice none 0 0]], []⟩ 8 (by kernel_rfl) (by kernel_rfl) (by kernel_rfl) (by kernel_rfl)) ?_
  intro W base args ds gs before hval hW hc hsz _
  exact law_contract (H := hint) (L := types) (tb := 4) fits.order fits.small fits.quiet (ovr_ok tabN_ok) (by kernel_rfl) (by kernel_rfl) (by kernel_rfl) rfl (fun ds hd => by
      match ds, hd with
      | [d0, d1, d2, d3], _ => rfl) rfl Try.underlying4
    derNumbers_run hval hW hsz (fun g x h => by cases h)
theorem over : Rows.derNumbersRow.holds Try.pinned (OpenSpec.ofChange Rows.derNumbersSpec) :=
  OpenClaim.holds_of_wide 7 Try.f7 rfl rfl rfl rfl rfl rfl rfl ⟨rfl, rfl, rfl, rfl, rfl⟩ rfl rfl rfl rfl rfl (by kernel_rfl) Try.func7 (by kernel_rfl)
    (of_decide_eq_true (by kernel_rfl)) (by unfold Func.isWrapper; first | (rw [if_pos (by decide +kernel)]; kernel_rfl) | (rw [if_neg (by decide +kernel)]; exact ⟨rfl, rfl⟩))
    (fun os started H enc _ => lifted os started H enc)
theorem proved : Rows.DerNumbersSaid := over
#print axioms proved
end Go.Proofs.Ytolpgbgmldpneaa.derNumbers
