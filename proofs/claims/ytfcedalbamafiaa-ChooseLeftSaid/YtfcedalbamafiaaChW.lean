/- Intervals: what is proved of the given program. It bears no condition. -/
import Derived.Test.YtfcedalbamafiaaChV
namespace Go.Proofs.Ytfcedalbamafiaa
open Go Go.Im
set_option linter.unusedVariables false
set_option linter.unusedSimpArgs false
noncomputable section

structure Sp where
  (lo mid hi : Int)
def spI (s : Sp) : IV := .agg [.int .i64 s.lo, .int .i64 s.mid, .int .i64 s.hi]
def spOf (x : IV) : Sp := ⟨Im.intOf (nthD x.cells 0), Im.intOf (nthD x.cells 1), Im.intOf (nthD x.cells 2)⟩
def isSp (x : IV) : Bool := match x with | .agg [.int .i64 _, .int .i64 _, .int .i64 _] => true | _ => false
theorem isSp_eq {x : IV} (h : isSp x = true) : x = spI (spOf x) := by
  unfold isSp at h
  split at h
  · rfl
  · cases h
def sps (l : List IV) : List Sp := l.map spOf
theorem sps_eq : ∀ {l : List IV}, l.all isSp = true → l = (sps l).map spI
  | [], _ => rfl
  | x :: l, h => by
    simp only [List.all_cons, Bool.and_eq_true] at h
    have ih := sps_eq h.2
    unfold sps at ih ⊢
    rw [List.map_cons, List.map_cons, ← isSp_eq h.1, ← ih]
theorem sps_len (l : List IV) : (sps l).length = l.length := by simp [sps]
def spOK (z : Nat) (l : List IV) : Bool := decide (z = 3 ∧ l.length ≤ 140737488355328) && l.all isSp
theorem spOK_iff {z : Nat} {l : List IV} (h : spOK z l = true) : z = 3 ∧ l.length ≤ 140737488355328 ∧ l = (sps l).map spI := by
  simp only [spOK, Bool.and_eq_true, decide_eq_true_eq] at h
  exact ⟨h.1.1, h.1.2, sps_eq h.2⟩
theorem sp_t (s : Sp) : testAll ([LT.i IntKind.i64] ++ ([LT.i IntKind.i64] ++ ([LT.i IntKind.i64] ++ []))) 0 (spI s).cells = true := Eq.trans rfl rfl
theorem sp_0 (s : Sp) : Im.intOf (nthD (spI s).cells 0) = s.lo := Eq.trans rfl rfl
theorem sp_1 (s : Sp) : Im.intOf (nthD (spI s).cells 1) = s.mid := Eq.trans rfl rfl
theorem sp_2 (s : Sp) : Im.intOf (nthD (spI s).cells 2) = s.hi := Eq.trans rfl rfl
theorem nth_sp {ss : List Sp} {i : Nat} (h : i < ss.length) : nthD (ss.map spI) ((i : Int)).toNat = spI ss[i] := by rw [Int.toNat_natCast, nthD_mapf h]

/-! ### How many intervals have a point -/
def has (s : Sp) (x : Int) : Bool := bif decide (s.lo ≤ x) then decide (x ≤ s.hi) else false
def cov (ss : List Sp) (x : Int) : Nat := ss.countP fun s => has s x
def cvStep (x : Int) (n : Nat) (s : Sp) : Nat := if has s x = true then n + 1 else n
theorem cv_fold (x : Int) : ∀ (ss : List Sp) (n : Nat), ss.foldl (cvStep x) n = n + cov ss x
  | [], n => rfl
  | s :: ss, n => by
    rw [List.foldl_cons, cv_fold x ss]
    unfold cov cvStep
    rw [List.countP_cons]
    split <;> omega
theorem cov_le (ss : List Sp) (x : Int) : cov ss x ≤ ss.length := List.countP_le_length ..
abbrev NCall : Nat → CallF := acall Try.prog hint (ovrOf (tab []))
theorem cov_runs {nl : Option Bool} {cl : Bool} {ss : List Sp} {x : Int} (hs : ss.length ≤ 140737488355328) :
    EachOK Try.prog hint NCall 0 (hint.kp 12) (loopAt Try.prog 12 58) (Sx 12 [.int .i64 x, .int .i64 ((0 : Nat) : Int), .fsl nl cl 3 (ss.map spI), .int .i64 (ss.length : Int), .int .i64 ((0 : Nat) : Int)] []) (.exit 0)
      (fun n : Nat => Sx 12 [.int .i64 x, .int .i64 (n : Int), .fsl nl cl 3 (ss.map spI), .int .i64 (ss.length : Int), .int .i64 (ss.length : Int)] []) (foldE (fun (_ : Nat) n s => (Sum.inl (cvStep x n s) : Nat ⊕ (Ex × St))) 0 0 ss) := by
  refine runs_each (l := ss) (n := 30) (ls := fun _ _ => none) loops_none inner0 (fun i n => Sx 12 [.int .i64 x, .int .i64 ((n : Nat) : Int), .fsl nl cl 3 (ss.map spI), .int .i64 (ss.length : Int), .int .i64 (i : Int)] []) _
    (fun i n => n ≤ i) (by simp) ?_ ?_ ss.length 0 0 (by omega) (Nat.le_refl _)
  · intro i n hi hn
    have ht := cov_in nl cl 3 (ss.map spI) x n ss.length i
    rw [nth_sp hi] at ht
    generalize ss[i] = s at *
    revert ht
    (simp only [sp_t, sp_0, sp_1, sp_2])
    rw [List.length_map, wadd1 (by omega), wadd1 (by omega)]
    intro ht
    refine .inl ⟨_, rfl, ?_, by unfold cvStep; split <;> omega⟩
    refine ht.trans (bif_step (decide_eq_true (by omega)) (bif_step (decide_eq_true ⟨trivial, by omega, by omega⟩) (bif_step rfl ?_)))
    unfold cvStep
    cases hh : has s x
    · exact bif_stepF hh (by rw [if_neg (by simp)])
    · exact bif_step hh (by rw [if_pos rfl])
  · intro n hn
    exact (cov_in nl cl 3 (ss.map spI) x n ss.length ss.length).trans (bif_stepF (decide_eq_false (by omega)) rfl)
end
end Go.Proofs.Ytfcedalbamafiaa
