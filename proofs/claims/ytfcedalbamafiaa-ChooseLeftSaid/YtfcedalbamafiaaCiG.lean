/- The region's ends: plain laws. It bears no condition. -/
import Derived.Test.YtfcedalbamafiaaCiE
namespace Go.Proofs.Ytfcedalbamafiaa
open Go Go.Im
set_option linter.unusedVariables false
set_option linter.unusedSimpArgs false
noncomputable section

theorem pre_count {ss : List Sp} (hb : ss.any badSp = false) {P Q : List (Int × Int)} {e : Int × Int} (h : sortE (endsOf ss) = P ++ e :: Q) :
    P.countP isS + (if isS e = true then 1 else 0) ≤ P.countP (fun e => !isS e) + cov ss e.1 := by
  have hp := sortE_perm (endsOf ss)
  have hs := sortE_pair (endsOf ss)
  have c1 := cnt_start e.1 ss
  have c2 := cnt_end e.1 ss
  have c3 := cnt_cov e.1 hb
  rw [← hp.countP_eq] at c1 c2
  rw [h] at hs c1 c2
  obtain ⟨_, hs2, hs3⟩ := List.pairwise_append.1 hs
  have hs4 := (List.pairwise_cons.1 hs2).1
  rw [List.countP_append, List.countP_cons] at c1 c2
  have a1 : P.countP isS = P.countP fun y => isS y && pre e.1 y := by
    refine List.countP_congr fun y hy => ?_
    have := hs3 y hy e (List.mem_cons_self ..)
    rw [← Bool.not_eq_true, ltE_iff] at this
    simp only [isS, pre, Bool.and_eq_true, decide_eq_true_eq]
    constructor
    · intro h; exact ⟨h, by omega⟩
    · exact fun h => h.1
  have a2 : (P.countP fun y => !isS y && pre e.1 y) ≤ P.countP fun y => !isS y := List.countP_mono_left fun y _ hy => by
    simp only [Bool.and_eq_true] at hy; exact hy.1
  have a3 : (Q.countP fun y => !isS y && pre e.1 y) = 0 := List.countP_eq_zero.2 fun y hy hy2 => by
    have := hs4 y hy
    rw [← Bool.not_eq_true, ltE_iff] at this
    simp only [isS, pre, Bool.and_eq_true, Bool.not_eq_true', decide_eq_true_eq, decide_eq_false_iff_not] at hy2
    omega
  have a4 : (!isS e && pre e.1 e) = false := by
    rw [← Bool.not_eq_true]
    simp only [isS, pre, Bool.and_eq_true, Bool.not_eq_true', decide_eq_true_eq, decide_eq_false_iff_not]
    omega
  have a5 : (isS e && pre e.1 e) = isS e := by
    rw [Bool.eq_iff_iff]
    simp only [isS, pre, Bool.and_eq_true, decide_eq_true_eq]
    constructor
    · exact fun h => h.1
    · exact fun h => ⟨h, .inr ⟨trivial, h⟩⟩
  rw [a5] at c1
  rw [a4, a3] at c2
  simp only [Bool.false_eq_true, if_false] at c2
  omega
def isLo (ss : List Sp) (x : Int) : Prop := 2 * cov ss x > ss.length ∧ ∃ s ∈ ss, s.lo = x
def isHi (ss : List Sp) (x : Int) : Prop := 2 * cov ss x > ss.length ∧ ∃ s ∈ ss, s.hi = x
theorem end_lo {ss : List Sp} {e : Int × Int} (h : e ∈ endsOf ss) (h2 : e.2 > 0) : ∃ s ∈ ss, s.lo = e.1 := by
  simp only [endsOf, List.mem_flatMap, List.mem_cons, List.not_mem_nil, or_false] at h
  obtain ⟨s, hs, rfl | rfl⟩ := h
  · exact ⟨s, hs, rfl⟩
  · exact absurd h2 (show ¬ ((-1 : Int) > 0) by decide)
theorem end_hi {ss : List Sp} {e : Int × Int} (h : e ∈ endsOf ss) (h2 : ¬ e.2 > 0) : ∃ s ∈ ss, s.hi = e.1 := by
  simp only [endsOf, List.mem_flatMap, List.mem_cons, List.not_mem_nil, or_false] at h
  obtain ⟨s, hs, rfl | rfl⟩ := h
  · exact absurd (show (1 : Int) > 0 by decide) h2
  · exact ⟨s, hs, rfl⟩
def swI (ss : List Sp) (w : Sw) : Prop := (w.fd = true → isLo ss w.lo) ∧ (2 * w.hv > ss.length ∨ isHi ss w.hi ∨ w.fd = false)
theorem sw_inv {ss : List Sp} (hb : ss.any badSp = false) : ∀ (Q P : List (Int × Int)), sortE (endsOf ss) = P ++ Q → swI ss (P.foldl (swStep (ss.length : Int)) ⟨0, 0, 0, false⟩) → swI ss (sweep ss)
  | [], P, h, hi => by
    rw [List.append_nil] at h
    unfold sweep
    rw [h]; exact hi
  | e :: Q, P, h, hi => by
    refine sw_inv hb Q (P ++ [e]) (by rw [h]; simp) ?_
    rw [List.foldl_append]
    show swI ss (swStep (ss.length : Int) (P.foldl (swStep (ss.length : Int)) ⟨0, 0, 0, false⟩) e)
    have hv := sw_hv (ss.length : Int) P ⟨0, 0, 0, false⟩
    have hc := pre_count hb h
    have hm : e ∈ endsOf ss := (sortE_perm (endsOf ss)).mem_iff.1 (by rw [h]; simp)
    revert hi hv
    generalize P.foldl (swStep (ss.length : Int)) ⟨0, 0, 0, false⟩ = w
    intro hi hv
    dsimp only at hv
    obtain ⟨i1, i2⟩ := hi
    unfold swStep
    by_cases h1 : e.2 > 0
    · rw [if_pos (show isS e = true from decide_eq_true h1)] at hc
      rw [if_pos h1]
      by_cases h2 : 2 * (w.hv + 1) > (ss.length : Int) ∧ w.fd = false
      · rw [if_pos h2]
        exact ⟨fun _ => ⟨by dsimp only; omega, end_lo hm h1⟩, .inl h2.1⟩
      · rw [if_neg h2]
        refine ⟨i1, ?_⟩
        rcases i2 with i2 | i2 | i2
        · left; dsimp only; omega
        · exact .inr (.inl i2)
        · exact .inr (.inr i2)
    · rw [if_neg (show ¬ isS e = true from fun h => h1 (of_decide_eq_true h))] at hc
      rw [if_neg h1]
      by_cases h2 : 2 * w.hv > (ss.length : Int)
      · rw [if_pos h2]
        exact ⟨i1, .inr (.inl ⟨by dsimp only; omega, end_hi hm h1⟩)⟩
      · rw [if_neg h2]
        refine ⟨i1, ?_⟩
        rcases i2 with i2 | i2
        · exact absurd i2 h2
        · exact .inr i2
/-- The region's ends are had by more than half, and are ends of intervals. -/
theorem sweep_ends {ss : List Sp} (hb : ss.any badSp = false) (hf : (sweep ss).fd = true) : isLo ss (sweep ss).lo ∧ isHi ss (sweep ss).hi := by
  have h := sw_inv hb (sortE (endsOf ss)) [] rfl ⟨fun h => Bool.noConfusion h, .inr (.inr rfl)⟩
  refine ⟨h.1 hf, ?_⟩
  have hv := sw_hv (ss.length : Int) (sortE (endsOf ss)) ⟨0, 0, 0, false⟩
  rw [(sortE_perm (endsOf ss)).countP_eq, (sortE_perm (endsOf ss)).countP_eq, (cnt_all ss).1, (cnt_all ss).2] at hv
  have hv' : (sweep ss).hv = _ := hv
  dsimp only at hv'
  rcases h.2 with h | h | h
  · omega
  · exact h
  · rw [hf] at h; cases h
end
end Go.Proofs.Ytfcedalbamafiaa
