/- The majority's region: plain laws. It bears no condition. -/
import Derived.Test.YtfcedalbamafiaaChZ
namespace Go.Proofs.Ytfcedalbamafiaa
open Go Go.Im
set_option linter.unusedVariables false
set_option linter.unusedSimpArgs false
noncomputable section

theorem split_filter {α : Type} {p : α → Bool} : ∀ {l : List α}, l.Pairwise (fun a b => p b = true → p a = true) → l = l.filter p ++ l.filter (fun x => !p x)
  | [], _ => rfl
  | a :: l, h => by
    obtain ⟨h1, h2⟩ := List.pairwise_cons.1 h
    have ih := split_filter h2
    cases ha : p a
    · have hn : l.filter p = [] := List.filter_eq_nil_iff.2 fun b hb hp => by rw [h1 b hb hp] at ha; cases ha
      rw [hn, List.nil_append] at ih
      rw [List.filter_cons_of_neg (by simp [ha]), hn, List.filter_cons_of_pos (by simp [ha]), List.nil_append, ← ih]
    · rw [List.filter_cons_of_pos ha, List.filter_cons_of_neg (by simp [ha]), List.cons_append, ← ih]
theorem ltE_iff {x y : Int × Int} : ltE x y = true ↔ x.1 < y.1 ∨ x.1 = y.1 ∧ x.2 > y.2 := by simp [ltE]
theorem sortE_perm (l : List (Int × Int)) : (sortE l).Perm l := List.mergeSort_perm ..
theorem sortE_pair (l : List (Int × Int)) : (sortE l).Pairwise fun a b => ltE b a = false := by
  have h := List.pairwise_mergeSort (le := fun x y => !(ltE y x)) (l := l)
    (fun a b c h1 h2 => by
      simp only [Bool.not_eq_true', ← Bool.not_eq_true, ltE_iff] at *; omega)
    (fun a b => by
      simp only [Bool.or_eq_true, Bool.not_eq_true', ← Bool.not_eq_true, ltE_iff]; omega)
  exact h.imp fun h => by simpa using h
/-- Ends ahead of a point, or starts at it. -/
def pre (x : Int) (e : Int × Int) : Bool := decide (e.1 < x ∨ e.1 = x ∧ e.2 > 0)
def isS (e : Int × Int) : Bool := decide (e.2 > 0)
theorem sorted_split (x : Int) (l : List (Int × Int)) : sortE l = (sortE l).filter (pre x) ++ (sortE l).filter (fun e => !pre x e) := by
  refine split_filter ((sortE_pair l).imp fun {a b} h hb => ?_)
  simp only [← Bool.not_eq_true, ltE_iff] at h
  simp only [pre, decide_eq_true_eq] at *
  omega
def unit (e : Int × Int) : Prop := e.2 = 1 ∨ e.2 = -1
theorem ends_unit {ss : List Sp} {e : Int × Int} (h : e ∈ endsOf ss) : unit e := by
  simp only [endsOf, List.mem_flatMap, List.mem_cons, List.not_mem_nil, or_false] at h
  obtain ⟨s, _, rfl | rfl⟩ := h
  · exact .inl rfl
  · exact .inr rfl
theorem sw_hv (n : Int) : ∀ (l : List (Int × Int)) (w : Sw), (l.foldl (swStep n) w).hv = w.hv + (l.countP isS : Nat) - (l.countP (fun e => !isS e) : Nat)
  | [], w => by simp
  | e :: l, w => by
    rw [List.foldl_cons, sw_hv n l, List.countP_cons, List.countP_cons]
    unfold swStep isS
    by_cases h : e.2 > 0
    · rw [if_pos h, decide_eq_true h]
      split <;> (simp; omega)
    · rw [if_neg h, decide_eq_false h]
      split <;> (simp; omega)
theorem sw_pre {n x : Int} : ∀ {l : List (Int × Int)} {w : Sw}, (∀ e ∈ l, e.1 ≤ x) → ((w.fd = true → w.lo ≤ x) ∧ (2 * w.hv > n → w.fd = true)) → (((l.foldl (swStep n) w).fd = true → (l.foldl (swStep n) w).lo ≤ x) ∧ (2 * (l.foldl (swStep n) w).hv > n → (l.foldl (swStep n) w).fd = true))
  | [], w, _, h => h
  | e :: l, w, he, h => by
    rw [List.foldl_cons]
    refine sw_pre (fun y hy => he y (List.mem_cons_of_mem _ hy)) ?_
    have h1 := he e (List.mem_cons_self ..)
    unfold swStep
    by_cases h2 : e.2 > 0
    · rw [if_pos h2]
      by_cases h3 : 2 * (w.hv + 1) > n ∧ w.fd = false
      · rw [if_pos h3]
        exact ⟨fun _ => h1, fun _ => rfl⟩
      · rw [if_neg h3]
        refine ⟨h.1, fun h4 => ?_⟩
        cases hf : w.fd
        · exact absurd ⟨h4, hf⟩ h3
        · rfl
    · rw [if_neg h2]
      split
      · exact ⟨h.1, fun h4 => h.2 (by dsimp only at h4; omega)⟩
      · exact ⟨h.1, fun h4 => h.2 (by dsimp only at h4; omega)⟩
theorem sw_keep {n : Int} : ∀ {l : List (Int × Int)} {w : Sw}, w.fd = true → (l.foldl (swStep n) w).fd = true ∧ (l.foldl (swStep n) w).lo = w.lo
  | [], w, h => ⟨h, rfl⟩
  | e :: l, w, h => by
    rw [List.foldl_cons]
    have hs : (swStep n w e).fd = true ∧ (swStep n w e).lo = w.lo := by
      unfold swStep
      by_cases h2 : e.2 > 0
      · rw [if_pos h2, if_neg (by rw [h]; simp)]
        exact ⟨h, rfl⟩
      · rw [if_neg h2]
        split <;> exact ⟨h, rfl⟩
    have ih := sw_keep (n := n) (l := l) hs.1
    exact ⟨ih.1, ih.2.trans hs.2⟩
theorem sw_post {n x : Int} : ∀ {l : List (Int × Int)} {w : Sw}, (∀ e ∈ l, x ≤ e.1) → (2 * w.hv > n ∨ x ≤ w.hi) → (2 * (l.foldl (swStep n) w).hv > n ∨ x ≤ (l.foldl (swStep n) w).hi)
  | [], w, _, h => h
  | e :: l, w, he, h => by
    rw [List.foldl_cons]
    refine sw_post (fun y hy => he y (List.mem_cons_of_mem _ hy)) ?_
    have h1 := he e (List.mem_cons_self ..)
    unfold swStep
    by_cases h2 : e.2 > 0
    · rw [if_pos h2]
      split
      · rcases h with h | h
        · left; dsimp only; omega
        · exact .inr h
      · rcases h with h | h
        · left; dsimp only; omega
        · exact .inr h
    · rw [if_neg h2]
      by_cases h3 : 2 * w.hv > n
      · rw [if_pos h3]; exact .inr h1
      · rw [if_neg h3]
        rcases h with h | h
        · exact absurd h h3
        · exact .inr h
theorem cnt_start (x : Int) : ∀ ss : List Sp, (endsOf ss).countP (fun e => isS e && pre x e) = ss.countP fun s => decide (s.lo ≤ x)
  | [] => rfl
  | s :: ss => by
    have ih := cnt_start x ss
    have e : endsOf (s :: ss) = (s.lo, 1) :: (s.hi, -1) :: endsOf ss := rfl
    rw [e, List.countP_cons, List.countP_cons, List.countP_cons, ih]
    have h1 : (isS (s.lo, 1) && pre x (s.lo, 1)) = decide (s.lo ≤ x) := by
      rw [Bool.eq_iff_iff]; simp [isS, pre]; omega
    have h2 : (isS (s.hi, -1) && pre x (s.hi, -1)) = false := by simp [isS]
    rw [h1, h2]; simp
theorem cnt_end (x : Int) : ∀ ss : List Sp, (endsOf ss).countP (fun e => !isS e && pre x e) = ss.countP fun s => decide (s.hi < x)
  | [] => rfl
  | s :: ss => by
    have ih := cnt_end x ss
    have e : endsOf (s :: ss) = (s.lo, 1) :: (s.hi, -1) :: endsOf ss := rfl
    rw [e, List.countP_cons, List.countP_cons, List.countP_cons, ih]
    have h1 : (!isS (s.lo, 1) && pre x (s.lo, 1)) = false := by simp [isS]
    have h2 : (!isS (s.hi, -1) && pre x (s.hi, -1)) = decide (s.hi < x) := by
      rw [Bool.eq_iff_iff]; simp [isS, pre]
    rw [h1, h2]; simp
theorem cnt_cov (x : Int) : ∀ {ss : List Sp}, ss.any badSp = false → (ss.countP fun s => decide (s.lo ≤ x)) = (ss.countP fun s => decide (s.hi < x)) + cov ss x
  | [], _ => rfl
  | s :: ss, h => by
    rw [List.any_cons, Bool.or_eq_false_iff] at h
    have ih := cnt_cov x h.2
    have hb : s.lo ≤ s.mid ∧ s.mid ≤ s.hi := by
      have := h.1
      unfold badSp at this
      by_cases h1 : s.lo > s.mid
      · rw [decide_eq_true h1] at this; cases this
      · rw [decide_eq_false h1, cond_false, decide_eq_false_iff_not] at this
        omega
    unfold cov at *
    rw [List.countP_cons, List.countP_cons, List.countP_cons, ih]
    unfold has
    by_cases h1 : s.lo ≤ x
    · rw [decide_eq_true h1, cond_true]
      by_cases h2 : s.hi < x
      · rw [decide_eq_true h2, decide_eq_false (show ¬ x ≤ s.hi by omega)]; simp; omega
      · rw [decide_eq_false h2, decide_eq_true (show x ≤ s.hi by omega)]; simp; omega
    · rw [decide_eq_false h1, decide_eq_false (show ¬ s.hi < x by omega)]; simp
theorem cnt_all : ∀ ss : List Sp, (endsOf ss).countP isS = ss.length ∧ (endsOf ss).countP (fun e => !isS e) = ss.length
  | [] => ⟨rfl, rfl⟩
  | s :: ss => by
    have ih := cnt_all ss
    have e : endsOf (s :: ss) = (s.lo, 1) :: (s.hi, -1) :: endsOf ss := rfl
    rw [e, List.countP_cons, List.countP_cons, List.countP_cons, List.countP_cons, ih.1, ih.2]
    simp [isS]
/-- A point that more than half of the intervals have lies in the region. -/
theorem sweep_maj {ss : List Sp} {x : Int} (hb : ss.any badSp = false) (hc : 2 * cov ss x > ss.length) : (sweep ss).fd = true ∧ (sweep ss).lo ≤ x ∧ x ≤ (sweep ss).hi := by
  have hp := sortE_perm (endsOf ss)
  have hsp := sorted_split x (endsOf ss)
  have hfold : sweep ss = ((sortE (endsOf ss)).filter (fun e => !pre x e)).foldl (swStep (ss.length : Int)) (((sortE (endsOf ss)).filter (pre x)).foldl (swStep (ss.length : Int)) ⟨0, 0, 0, false⟩) := by
    unfold sweep
    rw [← List.foldl_append, ← hsp]
  have hv1 := sw_hv (ss.length : Int) ((sortE (endsOf ss)).filter (pre x)) ⟨0, 0, 0, false⟩
  rw [List.countP_filter, List.countP_filter, hp.countP_eq, hp.countP_eq, cnt_start, cnt_end, cnt_cov x hb] at hv1
  have hv2 := sw_hv (ss.length : Int) (sortE (endsOf ss)) ⟨0, 0, 0, false⟩
  rw [hp.countP_eq, hp.countP_eq, (cnt_all ss).1, (cnt_all ss).2] at hv2
  have p1 := sw_pre (n := (ss.length : Int)) (x := x) (l := (sortE (endsOf ss)).filter (pre x)) (w := ⟨0, 0, 0, false⟩) (fun e he => by
    have := (List.mem_filter.1 he).2
    simp only [pre, decide_eq_true_eq] at this
    omega) ⟨fun h => Bool.noConfusion h, fun h => absurd h (by show ¬ (2 * (0 : Int) > _); omega)⟩
  have hfd := p1.2 (by rw [hv1]; dsimp only; omega)
  have k1 := sw_keep (n := (ss.length : Int)) (l := (sortE (endsOf ss)).filter (fun e => !pre x e)) hfd
  have q1 := sw_post (n := (ss.length : Int)) (x := x) (l := (sortE (endsOf ss)).filter (fun e => !pre x e)) (w := ((sortE (endsOf ss)).filter (pre x)).foldl (swStep (ss.length : Int)) ⟨0, 0, 0, false⟩) (fun e he => by
    have := (List.mem_filter.1 he).2
    simp only [pre, Bool.not_eq_true', decide_eq_false_iff_not] at this
    omega) (.inl (by rw [hv1]; dsimp only; omega))
  rw [← hfold] at k1 q1
  refine ⟨k1.1, by rw [k1.2]; exact p1.1 hfd, ?_⟩
  rcases q1 with q1 | q1
  · have : (sweep ss).hv = _ := hv2
    rw [this] at q1
    dsimp only at q1
    omega
  · exact q1
end
end Go.Proofs.Ytfcedalbamafiaa
