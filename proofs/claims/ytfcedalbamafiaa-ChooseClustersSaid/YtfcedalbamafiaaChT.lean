/- The order of ends: what the given program's closure answers. It bears no condition. -/
import Derived.Test.YtfcedalbamafiaaChS
import Derived.WalkKit
namespace Go.Proofs.Ytfcedalbamafiaa
open Go Go.Shelf Go.RowKit Go.Lib Go.Sort
set_option linter.unusedVariables false
/-- How two ends stand to one another. -/
def cmpE (x y : Int × Int) : Int := if x.1 < y.1 ∨ x.1 = y.1 ∧ x.2 > y.2 then -1 else if x.1 = y.1 ∧ x.2 = y.2 then 0 else 1
def encE (x : Int × Int) : List Value := [.int .i64 x.1, .int .i64 x.2]
set_option maxHeartbeats 1000000 in
theorem closure26 (x y : Int × Int) (W : World) : Calls Try.prog 26 #[.agg #[.int .i64 x.1, .int .i64 x.2], .agg #[.int .i64 y.1, .int .i64 y.2]] W fun e w' => e = .returned (.int .i64 (cmpE x y)) ∧ ∃ q os', w' = grow (W.drewN q) os' := by
  go_enter Try.func26, Try.ntmps26
  go_wp2
  all_goals go_ret
  all_goals refine ⟨?_, 0, _, by rw [alloc_eq_grow, alloc_eq_grow, grow_grow]; rfl⟩
  all_goals refine congrArg (fun n => Ending.returned (Value.int .i64 n)) ?_
  all_goals unfold cmpE
  all_goals (try simp only [beq_iff_eq, beq_eq_false_iff_ne, ne_eq] at *)
  all_goals (repeat' split) <;> omega
theorem cmpLays26 (blk off size : Nat) (w : World) : CmpLays Try.prog 26 #[] encE 2 cmpE blk off size w :=
  fun _ _ _ _ x y => closure26 x y _
def ltE (x y : Int × Int) : Bool := decide (x.1 < y.1 ∨ x.1 = y.1 ∧ x.2 > y.2)
theorem lt_cmp (x y : Int × Int) : ltOf cmpE x y = ltE x y := by
  unfold ltOf cmpE ltE
  by_cases h1 : x.1 < y.1 ∨ x.1 = y.1 ∧ x.2 > y.2
  · rw [if_pos h1, decide_eq_true h1]; rfl
  · rw [if_neg h1, decide_eq_false h1]
    split <;> rfl
theorem swoE : SWO (ltOf cmpE) where
  irrefl x := by rw [lt_cmp]; simp [ltE]
  trans x y z h1 h2 := by rw [lt_cmp] at *; simp only [ltE, decide_eq_true_eq] at *; omega
  ntrans x y z h1 h2 := by rw [lt_cmp] at *; simp only [ltE, decide_eq_false_iff_not] at *; omega
theorem oneE (x y : Int × Int) (h1 : ltOf cmpE x y = false) (h2 : ltOf cmpE y x = false) : x = y := by
  rw [lt_cmp] at *
  simp only [ltE, decide_eq_false_iff_not] at h1 h2
  exact Prod.ext (by omega) (by omega)
/-- The ends in their order. -/
def sortE (l : List (Int × Int)) : List (Int × Int) := l.mergeSort fun x y => !(ltE y x)
theorem sort_calls (blk cap : Nat) (d : Array (Int × Int)) (w : World) (hH : HoldsK encE 2 w blk 0 d) (hblk : blk < w.heap.size) (hsz : d.size < 4611686018427387904) :
    Calls Try.prog 25 #[.slice (some ⟨blk, 0, none⟩) d.size cap, .func (.func 26) #[] #[]] w fun e w' => e = .returned (.tuple #[]) ∧ ∃ n os, w' = sortWorldK encE 2 w blk 0 n (sortE d.toList).toArray os := by
  have eg : ∀ args w, (callFunc 26 args).run Try.prog w = .ok (.enter 26 args) w := enters_of Try.func26 (by kernel_rfl) rfl
  have h := AnyQ.slices_SortFunc_total sortEnd 2 Try.isAgg48 Try.sizeOf48 encE (fun _ => rfl) (fun x v hv => by simp [encE] at hv; rcases hv with rfl | rfl <;> rfl) cmpE swoE 26 #[] blk 0 cap d w eg (cmpLays26 blk 0 d.size w) hH hblk hsz oneE
  have e : (fun x y => !ltOf cmpE y x) = fun x y => !ltE y x := by funext x y; rw [lt_cmp]
  rw [e] at h
  exact h
theorem sort_none (p : Option Addr) (cap : Nat) (fv : Value) (w : World) : Calls Try.prog 25 #[.slice p 0 cap, fv] w fun e w' => e = .returned (.tuple #[]) ∧ w' = w :=
  AnyF.slices_SortFunc_none sortEnd p cap fv w
end Go.Proofs.Ytfcedalbamafiaa
