/- The keys of the map that Match makes. It bears no condition. -/
import Derived.Test.YtgbddcdpbgaojaaProg
import Derived.Maps.Keyed
import Derived.DeepKeys4
import Derived.Maps.OwnRows
namespace Go.Proofs.Ytgbddcdpbgaojaa
open Go Go.Maps
set_option linter.unusedVariables false
set_option linter.unusedSimpArgs false
theorem law61 : Keyed Try.prog 61 := Keyed.of_law (deep_law_laid (m := 2) (by kernel_rfl) (by omega) (of_decide_eq_true (by kernel_rfl)) (by kernel_rfl) (by kernel_rfl))
theorem zero30 (w : World) : (zeroValue 30).run Try.prog w = .ok (.slice none 0 0) w := by kernel_rfl
theorem info3 : (Try.prog.info? 3).map (fun i => (i.zero, i.size, i.bytes)) = some (some (.int .i64 0), 1, 8) := by kernel_rfl
theorem info33 : (Try.prog.info? 33).map (fun i => (i.zero, i.size, i.bytes)) = some (some (.agg #[.int .i64 0, .int .i64 0]), 2, 16) := by kernel_rfl
theorem lits51 (d : Nat) {a : Int} (h : 0 ≤ a ∧ a < 4294967296) : Try.prog.keyLits (d + 1) 51 [.int .u32 a] = some [.int .u32 a] := by
  unfold Program.keyLits
  rw [show Try.prog.underlying 51 = some (.int .u32) by kernel_rfl]
  have : (Lit.int .u32 a).wf = true := by simp [Lit.wf, IntKind.min, IntKind.max, IntKind.signed, IntKind.bits]; omega
  simp [this]
theorem lits9 (d : Nat) {s : ByteArray} (h : s.size ≤ maxLen) : Try.prog.keyLits (d + 1) 9 [.string s] = some [.string s.data.toList] := by
  unfold Program.keyLits
  rw [show Try.prog.underlying 9 = some .string by kernel_rfl]
  simp [h]
def keyV (a b : Int) (s : ByteArray) : Value := .agg #[.int .u32 a, .int .u32 b, .string s]
theorem size51 : Try.prog.cellsOf 51 = 1 := by kernel_rfl
theorem size9 : Try.prog.cellsOf 9 = 1 := by kernel_rfl
theorem size61 : Try.prog.cellsOf 61 = 3 := by kernel_rfl
theorem kt61 : Try.prog.keyType 61 = true := by kernel_rfl
theorem key61 {a b : Int} {s : ByteArray} (ha : 0 ≤ a ∧ a < 4294967296) (hb : 0 ≤ b ∧ b < 4294967296) (hs : s.size ≤ maxLen) : ∃ kl, keyOf Try.prog 61 (keyV a b s) = some kl := by
  have hf : Value.formed Try.prog 61 (keyV a b s) = true := by
    unfold Value.formed keyV
    simp [Try.underlying61, size61]
  have hl : Try.prog.keyLits (Try.prog.types.size + 1) 61 [.int .u32 a, .int .u32 b, .string s] = some [.int .u32 a, .int .u32 b, .string s.data.toList] := by
    obtain ⟨d, hd⟩ : ∃ d, Try.prog.types.size = d + 1 := ⟨Try.prog.types.size - 1, by have : 0 < Try.prog.types.size := of_decide_eq_true (by kernel_rfl); omega⟩
    rw [hd]
    unfold Program.keyLits
    rw [Try.underlying61]
    simp [size61, size51, size9, lits51 d ha, lits51 d hb, lits9 d hs]
  refine ⟨.string (keyBytes [.int .u32 a, .int .u32 b, .string s.data.toList]), ?_⟩
  unfold keyOf
  rw [Try.underlying61]
  simp only [kt61, hf, Bool.and_self, if_true]
  show (Try.prog.keyLits _ 61 [.int .u32 a, .int .u32 b, .string s]).map _ = _
  rw [hl]; rfl
theorem keyV_inj {a b c d : Int} {s u : ByteArray} (h : keyV a b s = keyV c d u) : a = c ∧ b = d ∧ s = u := by
  unfold keyV at h
  injection h with h
  have := congrArg Array.toList h
  simp at this
  exact this
end Go.Proofs.Ytgbddcdpbgaojaa
