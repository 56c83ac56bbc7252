/- Cover and Region: what is proved of the given program. It bears no condition. -/
import Derived.Test.YtfcedalbamafiaaChX
namespace Go.Proofs.Ytfcedalbamafiaa
open Go Go.Im
set_option linter.unusedVariables false
set_option linter.unusedSimpArgs false
noncomputable section

theorem cover_known : Known Try.prog hint 12 (covP spOK fun l x => ((cov (sps l) x : Nat) : Int)) := by
  refine known_alt fits fun xs T v T1 h => ?_
  unfold covP at h
  split at h
  case h_2 => cases h
  rename_i nl cl z l x
  simp only [List.mem_cons, List.not_mem_nil, or_false, Prod.mk.injEq, Bool.true_eq] at h
  obtain ⟨h1, rfl, rfl⟩ := h
  obtain ⟨rfl, hl, he⟩ := spOK_iff h1
  refine ⟨[[.fsl nl cl 3 l, .int .i64 x]], by simp, Splits.self _, fun ys hy => ?_⟩
  rw [List.mem_singleton] at hy
  subst hy
  refine ⟨noGd_of rfl, tab [], _, tab_nil, ltab_cons (by kernel_rfl) (loopF_ok fun vs bx e vs' bx' hm => ?_) ltab_nil, 30, _, Wk.refl _, (cov_call nl cl 3 l x ((cov (sps l) x : Nat) : Int)).trans (bif_step sameS_t rfl)⟩
  obtain ⟨rfl, rfl, rfl, rfl, rfl⟩ := oneF_mem hm
  have := cov_runs (nl := nl) (cl := cl) (ss := sps l) (x := x) (by rw [sps_len]; exact hl)
  rw [foldE_inl (g := cvStep x) (fun _ _ _ => rfl), cv_fold, Nat.zero_add, ← he, sps_len] at this
  exact this

/-! ### Intervals that are none -/
def badSp (s : Sp) : Bool := bif decide (s.lo > s.mid) then true else decide (s.mid > s.hi)
def ixStep (V : Nat → St) (i : Nat) (_x : Unit) (s : Sp) : Unit ⊕ (Ex × St) := if badSp s = true then .inr (.ret, V i) else .inl ()
def ixEnd : Nat → List Sp → Nat
  | i, [] => i
  | i, s :: ss => if badSp s = true then i else ixEnd (i + 1) ss
theorem ix_fold (V : Nat → St) : ∀ (ss : List Sp) (i : Nat), foldE (ixStep V) i () ss = if ss.any badSp = true then .inr (.ret, V (ixEnd i ss)) else .inl ()
  | [], i => by simp [foldE]
  | s :: ss, i => by
    unfold foldE ixEnd
    simp only [ixStep, List.any_cons]
    by_cases h : badSp s = true
    · simp only [h, if_true, Bool.true_or]
    · have h' : badSp s = false := by simpa using h
      simp only [h', Bool.false_eq_true, if_false, Bool.false_or]
      exact ix_fold V ss (i + 1)
theorem ix_runs {nl : Option Bool} {cl : Bool} {ss : List Sp} (hs : ss.length ≤ 140737488355328) :
    EachOK Try.prog hint NCall 0 (hint.kp 33) (loopAt Try.prog 33 26) (Sx 33 (ixV nl cl 3 (ss.map spI) 0 (ss.length : Int) ((0 : Nat) : Int)) []) (.exit 0)
      (fun _ : Unit => Sx 33 (ixV nl cl 3 (ss.map spI) 0 (ss.length : Int) (ss.length : Int)) []) (foldE (ixStep fun i => Sx 33 (ixV nl cl 3 (ss.map spI) (i : Int) (ss.length : Int) (i : Int)) []) 0 () ss) := by
  refine runs_each (X := Unit) (l := ss) (n := 30) (ls := fun _ _ => none) loops_none inner0 (fun i _ => Sx 33 (ixV nl cl 3 (ss.map spI) 0 (ss.length : Int) (i : Int)) []) _
    (fun _ _ => True) (by simp) ?_ ?_ ss.length 0 () (by omega) trivial
  · intro i _ hi _
    have ht := ix_in nl cl 3 (ss.map spI) ss.length i
    rw [nth_sp hi] at ht
    simp only [ixStep]
    generalize ss[i] = s at *
    revert ht
    (simp only [sp_t, sp_0, sp_1, sp_2])
    rw [List.length_map, wadd1 (by omega)]
    intro ht
    replace ht := fun r h => ht.trans (bif_step (r := r) (decide_eq_true (by omega)) (bif_step (decide_eq_true ⟨trivial, by omega, by omega⟩) (bif_step rfl h)))
    cases hb : badSp s
    · exact .inl ⟨(), if_neg (by simp), ht _ (bif_stepF hb rfl), trivial⟩
    · exact .inr ⟨_, _, if_pos rfl, by simp, ht _ (bif_step hb rfl)⟩
  · intro _ _
    exact (ix_in nl cl 3 (ss.map spI) ss.length ss.length).trans (bif_stepF (decide_eq_false (by omega)) rfl)
theorem cf_known : Known Try.prog hint 23 (cfP spOK fun l => (sps l).any badSp) := by
  refine known_alt fits fun xs T v T1 h => ?_
  unfold cfP at h
  split at h
  case h_2 => cases h
  rename_i nl cl z l
  simp only [List.mem_cons, List.not_mem_nil, or_false, Prod.mk.injEq, Bool.true_eq] at h
  obtain ⟨h1, rfl, rfl⟩ := h
  obtain ⟨rfl, hl, he⟩ := spOK_iff h1
  refine ⟨[[.fsl nl cl 3 l, .fn 24 []]], by simp, Splits.self _, fun ys hy => ?_⟩
  rw [List.mem_singleton] at hy
  subst hy
  have hr := ix_runs (nl := nl) (cl := cl) (ss := sps l) (by rw [sps_len]; exact hl)
  rw [ix_fold, ← he, sps_len] at hr
  cases hb : (sps l).any badSp
  · rw [hb, if_neg (by simp)] at hr
    refine ⟨noGd_of rfl, tab [], _, tab_nil, ltab_cons (by kernel_rfl) (loopF_ok fun vs bx e vs' bx' hm => ?_) ltab_nil, 30, _, Wk.refl _, (cf_no nl cl 3 l).trans (bif_step sameS_t rfl)⟩
    obtain ⟨rfl, rfl, rfl, rfl, rfl⟩ := oneF_mem hm
    exact hr
  · rw [hb, if_pos rfl] at hr
    refine ⟨noGd_of rfl, tab [], _, tab_nil, ltab_cons (by kernel_rfl) (loopF_ok fun vs bx e vs' bx' hm => ?_) ltab_nil, 30, _, Wk.refl _, (cf_yes nl cl 3 l ((ixEnd 0 (sps l) : Nat) : Int)).trans (bif_step sameS_t ?_)⟩
    · obtain ⟨rfl, rfl, rfl, rfl, rfl⟩ := oneF_mem hm
      exact hr
    · rw [decide_eq_true (show ((ixEnd 0 (sps l) : Nat) : Int) ≥ 0 by omega)]

/-! ### The ends -/
def endsOf (ss : List Sp) : List (Int × Int) := ss.flatMap fun s => [(s.lo, 1), (s.hi, -1)]
theorem endsOf_len : ∀ ss : List Sp, (endsOf ss).length = 2 * ss.length
  | [] => rfl
  | s :: ss => by
    have := endsOf_len ss
    simp only [endsOf, List.flatMap_cons, List.length_append, List.length_cons, List.length_nil] at this ⊢
    omega
theorem ends_fold : ∀ (ss : List Sp) (es : List (Int × Int)), ss.foldl (fun es s => es ++ [(s.lo, 1), (s.hi, -1)]) es = es ++ endsOf ss
  | [], es => by simp [endsOf]
  | s :: ss, es => by rw [List.foldl_cons, ends_fold ss]; simp [endsOf]
abbrev rgTab : FuncId → Option SpecF := tab [(23, cfP spOK fun l => (sps l).any badSp), (25, sortP)]
theorem rgTab_ok : ∀ f F, rgTab f = some F → Known Try.prog hint f F := tab_cons cf_known (tab_cons sort_known tab_nil)
end
end Go.Proofs.Ytfcedalbamafiaa
