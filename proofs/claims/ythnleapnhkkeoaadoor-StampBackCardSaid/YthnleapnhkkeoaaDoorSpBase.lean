/- What the laws of this seat lean on: the machine's table of slots that live through loops, the listed tables, the shapes of arguments. It bears no condition. -/
import Derived.Test.YthnleapnhkkeoaaDoorIm4
import Derived.Test.YthnleapnhkkeoaaDoorRows
import GoSem.ClaimSeven
namespace Go.Proofs.YthnleapnhkkeoaaDoor
open Go Go.Im
set_option linter.unusedVariables false

def kps : FuncId → List Nat := fun f => ((([(16, [0, 2, 3, 4, 5, 6, 7, 37, 38]), (17, [0, 2, 3, 4, 5, 6, 7, 8]), (19, [0, 2, 3, 4, 5]),
  (31, [0, 2, 3, 4, 5]), (38, [0, 1, 2, 6, 7, 8, 9, 10, 11, 12, 13, 14, 15, 16, 17, 18]), (39, [0, 2, 3, 4, 5, 6, 7]),
  (40, [0, 2, 3, 5, 6, 7, 8]), (49, [0, 1, 4, 5, 6, 7, 8, 9, 10, 11, 12, 13, 14, 15, 16]),
  (50, [0, 1, 2, 3, 4, 10, 11, 12, 13, 14, 15, 16, 17, 18])] : List (Nat × List Nat)).lookup f).getD [])
def pow10 : List Int := [1, 10, 100, 1000, 10000, 100000, 1000000, 10000000, 100000000, 1000000000, 10000000000, 100000000000, 1000000000000, 10000000000000, 100000000000000, 1000000000000000, 10000000000000000, 100000000000000000, 1000000000000000000, 10000000000000000000]
def gls : Nat → Option IV
  | 2 => some (.fp (pow10.map (IV.int .u64)))
  | _ => none
def hint : Hint := { kp := fun f => ⟨kps f, [], false⟩, mv := fun f => match f with | 49 => [true] | _ => [], keep := fun _ => false, gl := gls }
def types : List TypeId := [2, 3, 9, 22, 38]

theorem fits : Fits Tryd.prog := fits_of (by kernel_rfl) (by kernel_rfl) (by kernel_rfl)

theorem gl_ok (W : World) (h : laidMetH Tryd.prog [("math/bits.deBruijn32tab", Rows.laid_math_bits_deBruijn32tab), ("math/bits.deBruijn64tab", Rows.laid_math_bits_deBruijn64tab), ("internal/strconv.uint64pow10", Rows.laid_internal_strconv_uint64pow10)] W) :
    ∀ g x, hint.gl g = some x → RepC (fun g => g < W.heap.size) W x (.pointer (some ⟨g, 0, none⟩)) := by
  intro g x hx
  simp only [hint, gls] at hx
  split at hx
  · cases hx
    exact laid_ints (n := "internal/strconv.uint64pow10") (t := 66) (e := 22) (m := 20) (by kernel_rfl) h (List.mem_cons_of_mem _ (List.mem_cons_of_mem _ (List.mem_singleton.2 (by rfl)))) (by kernel_rfl) (by kernel_rfl) (by kernel_rfl) (by kernel_rfl) (by kernel_rfl) (by kernel_rfl) (by decide)
  · cases hx

noncomputable abbrev C (spec : FuncId → Option SpecF) (f : FuncId) (xs : List IV) : Option (IV × List Blk) := callK Tryd.prog hint spec (fun _ _ => none) 30 f xs [] (fun v T => some (v, T))
noncomputable abbrev Hd (spec : FuncId → Option SpecF) (f : FuncId) (q : Nat) (xs : List IV) : Option (Ex × St) := headK Tryd.prog hint spec (fun _ _ => none) 30 f q xs []
noncomputable abbrev Rd (spec : FuncId → Option SpecF) (f : FuncId) (q : Nat) (s : St) : Option (Ex × St) := roundK Tryd.prog hint spec (fun _ _ => none) 30 0 f q s
noncomputable def Sx (f : FuncId) (vs : List IV) (bx : List Blk) : St := stAt Tryd.prog hint f vs bx
def aliveF : SpecF := fun xs T => match xs, T with
  | [], [] => [(true, .bool true, [])]
  | _, _ => []
theorem alive_known : Known Tryd.prog hint 11 aliveF := by
  refine known_of fits (spec := tab []) tab_nil loops_none ?_
  intro xs T v T1 h
  unfold aliveF at h
  split at h
  · simp only [List.mem_cons, List.not_mem_nil, or_false, Prod.mk.injEq] at h
    obtain ⟨_, rfl, rfl⟩ := h
    exact ⟨60, by kernel_rfl⟩
  · cases h
end Go.Proofs.YthnleapnhkkeoaaDoor
