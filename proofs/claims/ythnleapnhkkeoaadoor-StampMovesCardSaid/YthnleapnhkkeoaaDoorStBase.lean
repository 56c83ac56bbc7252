/- What the laws of this seat lean on: the machine's table of slots that live through loops, the listed tables, the shapes of arguments. It bears no condition. -/
import Derived.Test.YthnleapnhkkeoaaDoorIm3
import Derived.Test.YthnleapnhkkeoaaDoorRows
import GoSem.ClaimSeven
namespace Go.Proofs.YthnleapnhkkeoaaDoor
open Go Go.Im
set_option linter.unusedVariables false

def kps : FuncId → List Nat := fun f => ((([(16, [0, 2, 3, 4, 5, 6, 7, 8, 9, 10, 11, 37, 38]), (17, [0, 2, 3, 4, 5, 6, 7, 8, 9]), (19, [0, 2, 3, 4, 5]),
  (31, [0, 2, 3, 4, 5]), (38, [0, 1, 2, 6, 7, 8, 9, 10, 11, 12, 13, 14, 15, 16, 17, 18]), (39, [0, 2, 3, 4, 5, 6, 7]),
  (40, [0, 2, 3, 5, 6, 7, 8]), (49, [0, 1, 4, 5, 6, 7, 8, 9, 10, 11, 12, 13, 14, 15, 16]),
  (50, [0, 1, 2, 3, 4, 10, 11, 12, 13, 14, 15, 16, 17, 18])] : List (Nat × List Nat)).lookup f).getD [])
def pow10 : List Int := [1, 10, 100, 1000, 10000, 100000, 1000000, 10000000, 100000000, 1000000000, 10000000000, 100000000000, 1000000000000, 10000000000000, 100000000000000, 1000000000000000, 10000000000000000, 100000000000000000, 1000000000000000000, 10000000000000000000]
def gls : Nat → Option IV
  | 2 => some (.fp (pow10.map (IV.int .u64)))
  | _ => none
def hint : Hint := { kp := kps, mv := fun _ => [], keep := fun _ => false, gl := gls }
def types : List TypeId := [2, 3, 9, 22, 38]

theorem fits : Fits Tryd.prog where
  order := by kernel_rfl
  quiet := by
    intro f fn hf hb hn
    have h : (Tryd.prog.funcs.toList.all fun fn => fn.body.isNone || !(fn.name == "runtime.NumGoroutine")) = true := by kernel_rfl
    have hm : fn ∈ Tryd.prog.funcs.toList := by
      rw [Array.mem_toList_iff]
      exact Array.mem_of_getElem? hf
    have := List.all_eq_true.1 h fn hm
    rw [hn] at this
    cases hbd : fn.body with
    | none => rw [hbd] at hb; cases hb
    | some c => rw [hbd] at this; simp at this

theorem gl_ok (W : World) (h : laidMetH Tryd.prog [("math/bits.deBruijn32tab", Rows.laid_math_bits_deBruijn32tab), ("math/bits.deBruijn64tab", Rows.laid_math_bits_deBruijn64tab), ("internal/strconv.uint64pow10", Rows.laid_internal_strconv_uint64pow10)] W) :
    ∀ g x, hint.gl g = some x → RepC (fun g => g < W.heap.size) W x (.pointer (some ⟨g, 0, none⟩)) := by
  intro g x hx
  simp only [hint, gls] at hx
  split at hx
  · cases hx
    exact laid_ints (n := "internal/strconv.uint64pow10") (t := 66) (e := 22) (m := 20) (by kernel_rfl) h (List.mem_cons_of_mem _ (List.mem_cons_of_mem _ (List.mem_singleton.2 (by rfl)))) (by kernel_rfl) (by kernel_rfl) (by kernel_rfl) (by kernel_rfl) (by kernel_rfl) (by kernel_rfl) (by decide)
  · cases hx

theorem wants_none {P : Program} {ps : Array TypeId} (h : (ps.toList.all fun t => !P.wantsStandIn t) = true) : ∀ (j : Nat) (t : TypeId), ps[j]? = some t → P.wantsStandIn t = false := by
  intro j t ht
  have := List.all_eq_true.1 h t (by rw [Array.mem_toList_iff]; exact Array.mem_of_getElem? ht)
  simpa using this

/-! ### Whole numbers -/
theorem arg_int {P : Program} {t : TypeId} {k : IntKind} (hu : P.underlying t = some (.int k)) {x : IV} (h : ArgT P t x) : ∃ i, x = .int k i ∧ k.min ≤ i ∧ i ≤ k.max := by
  obtain ⟨n, l, h1, h2, _⟩ := h
  cases n with
  | zero => simp [Ty] at h1
  | succ n =>
    unfold Ty at h1
    rw [hu] at h1
    obtain ⟨i, rfl, hw⟩ := h1
    have : x = .int k i := by
      simp only [pack, isAggT, hu, Option.map_some] at h2
      exact (Option.some.inj h2).symm
    refine ⟨i, this, ?_⟩
    simpa [Lit.wf] using hw
theorem arg_str {P : Program} {t : TypeId} (hu : P.underlying t = some .string) {x : IV} (h : ArgT P t x) : ∃ s, x = .str s ∧ s.length ≤ reachBytes := by
  obtain ⟨n, l, h1, h2, _⟩ := h
  cases n with
  | zero => simp [Ty] at h1
  | succ n =>
    unfold Ty at h1
    rw [hu] at h1
    obtain ⟨s, rfl, hw⟩ := h1
    have : x = .str s := by
      simp only [pack, isAggT, hu, Option.map_some] at h2
      exact (Option.some.inj h2).symm
    exact ⟨s, this, hw⟩

theorem wrap_u64 (n : Int) : IntKind.u64.wrap n = n % 18446744073709551616 := rfl
theorem wrap_i64 (n : Int) : IntKind.i64.wrap n = (n + 9223372036854775808) % 18446744073709551616 - 9223372036854775808 := by
  have h1 : (2 : Int) ^ 64 = 18446744073709551616 := rfl
  have h2 : (2 : Int) ^ (64 - 1) = 9223372036854775808 := rfl
  simp only [IntKind.wrap, IntKind.signed, IntKind.bits, Bool.true_and, h1, h2, decide_eq_true_eq]
  split <;> omega
theorem wrap_u32 (n : Int) : IntKind.u32.wrap n = n % 4294967296 := rfl
theorem range_u64 : IntKind.u64.min = 0 ∧ IntKind.u64.max = 18446744073709551615 := by decide
theorem range_i64 : IntKind.i64.min = -9223372036854775808 ∧ IntKind.i64.max = 9223372036854775807 := by decide
theorem range_u32 : IntKind.u32.min = 0 ∧ IntKind.u32.max = 4294967295 := by decide
end Go.Proofs.YthnleapnhkkeoaaDoor
