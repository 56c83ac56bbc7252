/- Rows of binary digits. It bears no condition. -/
import Derived.Test.YtolpgbgmldpneaaDuH
import Derived.Test.YtolpgbgmldpneaaIm5
namespace Go.Proofs.Ytolpgbgmldpneaa
open Go Go.Im
set_option linter.unusedVariables false
set_option linter.unusedSimpArgs false
set_option maxRecDepth 20000
noncomputable section

/-! ### Same -/
def saP (c : List IV → List IV → Bool) (g : List IV → List IV → Bool) : SpecF := fun us T => match us, T with
  | [.fsl _ _ 1 l, .fsl _ _ 1 m], [] => [(c l m, .bool (g l m), [])]
  | _, _ => []
def cSam (l m : List IV) : Bool := okW l && okW m && decide (l.length ≤ 1000000000000000000)
def gSam (l m : List IV) : Bool := decide (toW l = toW m)
theorem sam_runs {sp : FuncId → Option SpecF} {a b : List Nat} (hl : a.length = b.length) (hb : a.length ≤ 1000000000000000000) {nl nl2 : Option Bool} {cl cl2 : Bool} : ∀ m i : Nat, i + m = a.length → a.take i = b.take i →
    ∃ e i', Runs Try.prog hint (acall Try.prog hint (ovrOf sp)) 0 (hint.kp 30) (loopAt Try.prog 30 58) (Sx 30 [.fsl nl cl 1 (w64s a), .fsl nl2 cl2 1 (w64s b), .bool false, .int .i64 (i : Int)] []) e
      (Sx 30 [.fsl nl cl 1 (w64s a), .fsl nl2 cl2 1 (w64s b), .bool false, .int .i64 i'] []) ∧ ((a = b ∧ e = .exit 0) ∨ (a ≠ b ∧ e = .ret))
  | 0, i, h, ht => by
    obtain rfl : i = a.length := by omega
    rw [List.take_length, hl, List.take_length] at ht
    have hr := sam_in sp nl cl (w64s a) nl2 cl2 (w64s b) a.length
    rw [w64s_len, w64s_len] at hr
    exact ⟨_, _, Runs.last (n := 30) (ls := fun _ _ => none) loops_none inner0 (by simp) (hr.trans (bif_stepF (decide_eq_false (by omega)) rfl)), .inl ⟨ht, rfl⟩⟩
  | m + 1, i, h, ht => by
    have hi : i < a.length := by omega
    have hi2 : i < b.length := by omega
    have hr := sam_in sp nl cl (w64s a) nl2 cl2 (w64s b) i
    rw [w64s_len, w64s_len, Int.toNat_natCast, w64s_nth hi, w64s_nth hi2, cellI', cellI', intI', intI', wadd1 (by omega)] at hr
    replace hr := fun r q => hr.trans (bif_step (r := r) (decide_eq_true (by omega)) (bif_step (decide_eq_true ⟨rfl, by omega, by omega⟩) (bif_step isOf_int (bif_step (decide_eq_true ⟨rfl, by omega, by omega⟩) (bif_step isOf_int q)))))
    by_cases hab : a[i] = b[i]
    · obtain ⟨e, i', ih, h2⟩ := sam_runs (sp := sp) hl hb (nl := nl) (nl2 := nl2) (cl := cl) (cl2 := cl2) m (i + 1) (by omega) (by
        rw [← List.take_append_getElem hi, ← List.take_append_getElem hi2, ht, hab])
      exact ⟨e, i', Runs.step (n := 30) (ls := fun _ _ => none) loops_none inner0 (hr _ (bif_stepF (by rw [hab]; exact bne_self_eq_false _) rfl)) ih, h2⟩
    · exact ⟨_, _, Runs.last (n := 30) (ls := fun _ _ => none) loops_none inner0 (by simp) (hr _ (bif_step (bne_iff_ne.2 (by omega)) rfl)), .inr ⟨fun hh => hab (by subst hh; rfl), rfl⟩⟩
theorem sam_known : Known Try.prog hint 30 (saP cSam gSam) := by
  refine known_any fits fun us T v T1 h => ?_
  unfold saP at h
  split at h
  case h_2 => cases h
  rename_i nl cl l nl2 cl2 l2
  simp only [List.mem_cons, List.not_mem_nil, or_false, Prod.mk.injEq, Bool.true_eq, cSam, Bool.and_eq_true, decide_eq_true_eq] at h
  obtain ⟨⟨⟨h1, h2⟩, h3⟩, rfl, rfl⟩ := h
  obtain ⟨e, ho⟩ := okW_eq h1
  obtain ⟨e2, ho2⟩ := okW_eq h2
  unfold gSam
  generalize toW l = a at *
  generalize toW l2 = b at *
  subst e e2
  rw [w64s_len] at h3
  by_cases hl : a.length = b.length
  · obtain ⟨e, i', q, hq⟩ := sam_runs (sp := fun _ => none) hl h3 (nl := nl) (nl2 := nl2) (cl := cl) (cl2 := cl2) a.length 0 (by omega) (by rw [List.take_zero, List.take_zero])
    have hne : (((w64s a).length : Int) != ((w64s b).length : Int)) = false := by rw [w64s_len, w64s_len, hl]; exact bne_self_eq_false _
    rcases hq with ⟨hab, rfl⟩ | ⟨hab, rfl⟩
    · rw [decide_eq_true hab]
      exact ⟨fun _ => none, _, (fun f F h => by cases h), ltab_run (by kernel_rfl) q ltab_nil (by kernel_rfl), 30, (sam_call (atB _ _) true i' nl cl (w64s a) nl2 cl2 (w64s b)).trans (bif_stepF hne (bif_step at_t rfl))⟩
    · rw [decide_eq_false hab]
      exact ⟨fun _ => none, _, (fun f F h => by cases h), ltab_run (by kernel_rfl) q ltab_nil (by kernel_rfl), 30, (sam_ret (atB _ _) i' nl cl (w64s a) nl2 cl2 (w64s b)).trans (bif_stepF hne (bif_step at_t rfl))⟩
  · rw [decide_eq_false (fun hh => hl (by rw [hh]))]
    exact ⟨fun _ => none, _, (fun f F h => by cases h), ltab_cons (by kernel_rfl) (fun _ _ _ _ h => (gF_off h).elim) ltab_nil, 30, (sam_call (fun _ _ => false) true 0 nl cl (w64s a) nl2 cl2 (w64s b)).trans (bif_step (bne_iff_ne.2 (by rw [w64s_len, w64s_len]; omega)) rfl)⟩

/-! ### Numbers of digits -/
theorem setInt {k k2 : IntKind} {n m : Int} : setEl (IV.int k n) 0 (.int k2 m) = .int k2 m := Eq.trans rfl rfl
end
end Go.Proofs.Ytolpgbgmldpneaa
