/- The document's Cover, and the points that are tried: what is proved of the given program. It bears no condition. -/
import Derived.Test.YtfcedalbamafiaaCiJ
namespace Go.Proofs.Ytfcedalbamafiaa
open Go Go.Im
set_option linter.unusedVariables false
set_option linter.unusedSimpArgs false
noncomputable section

theorem rc_runs {nl : Option Bool} {cl : Bool} {ss : List Sp} {x : Int} (hs : ss.length ≤ 140737488355328) :
    EachOK Try.prog hint NCall 0 (hint.kp 18) (loopAt Try.prog 18 58) (Sx 18 (rcV nl cl (ss.map spI) x ((0 : Nat) : Int) ((0 : Nat) : Int)) []) (.exit 0)
      (fun n : Nat => Sx 18 (rcV nl cl (ss.map spI) x (n : Int) (ss.length : Int)) []) (foldE (fun (_ : Nat) n s => (Sum.inl (cvStep x n s) : Nat ⊕ (Ex × St))) 0 0 ss) := by
  refine runs_each (l := ss) (n := 30) (ls := fun _ _ => none) loops_none inner0 (fun i n => Sx 18 (rcV nl cl (ss.map spI) x ((n : Nat) : Int) (i : Int)) []) _
    (fun i n => n ≤ i) (by simp) ?_ ?_ ss.length 0 0 (by omega) (Nat.le_refl _)
  · intro i n hi hn
    have ht := rc_in nl cl (ss.map spI) x n i
    rw [nth_sp hi, lo_at, hi_at, List.length_map, wadd1 (by omega), wadd1 (by omega)] at ht
    generalize ss[i] = s at *
    refine .inl ⟨_, rfl, ?_, by unfold cvStep; split <;> omega⟩
    have hd : (3 : Nat) = 3 ∧ (0 : Int) ≤ (i : Int) ∧ (i : Int) < (ss.length : Int) := ⟨rfl, by omega, by omega⟩
    replace ht := fun r h => ht.trans (bif_step (r := r) (decide_eq_true (by omega)) (bif_step (decide_eq_true hd) (bif_step rfl h)))
    have e1 : Im.intOf (IV.int .i64 s.lo) = s.lo := rfl
    have e2 : Im.intOf (IV.int .i64 s.hi) = s.hi := rfl
    unfold cvStep has
    by_cases h1 : s.lo ≤ x
    · rw [decide_eq_true h1, cond_true]
      by_cases h2 : x ≤ s.hi
      · rw [decide_eq_true h2, if_pos rfl]
        exact ht _ (bif_step (by rw [e1, decide_eq_true h1]; rfl) (bif_step (decide_eq_true hd) (bif_step rfl (bif_step (by rw [e2, cond_true]; exact decide_eq_true h2) rfl))))
      · rw [decide_eq_false h2, if_neg (by simp)]
        exact ht _ (bif_step (by rw [e1, decide_eq_true h1]; rfl) (bif_step (decide_eq_true hd) (bif_step rfl (bif_stepF (by rw [e2, cond_true]; exact decide_eq_false h2) rfl))))
    · rw [decide_eq_false h1, cond_false, if_neg (by simp)]
      exact ht _ (bif_stepF (by rw [e1, decide_eq_false (show ¬ x ≥ s.lo from h1)]; rfl) rfl)
  · intro n hn
    have ht := rc_in nl cl (ss.map spI) x n ss.length
    rw [List.length_map] at ht
    exact ht.trans (bif_stepF (decide_eq_false (by omega)) rfl)
theorem rcover_known : Known Try.prog hint 18 (covP spOK fun l x => ((cov (sps l) x : Nat) : Int)) := by
  refine known_alt fits fun xs T v T1 h => ?_
  unfold covP at h
  split at h
  case h_2 => cases h
  rename_i nl cl z l x
  simp only [List.mem_cons, List.not_mem_nil, or_false, Prod.mk.injEq, Bool.true_eq] at h
  obtain ⟨h1, rfl, rfl⟩ := h
  obtain ⟨rfl, hl, he⟩ := spOK_iff h1
  refine ⟨[[.fsl nl cl 3 l, .int .i64 x]], by simp, Splits.self _, fun ys hy => ?_⟩
  rw [List.mem_singleton] at hy
  subst hy
  refine ⟨noGd_of rfl, tab [], _, tab_nil, ltab_cons (by kernel_rfl) (loopF_ok fun vs bx e vs' bx' hm => ?_) ltab_nil, 30, _, Wk.refl _, (rc_call nl cl l x ((cov (sps l) x : Nat) : Int)).trans (bif_step sameS_t rfl)⟩
  obtain ⟨rfl, rfl, rfl, rfl, rfl⟩ := oneF_mem hm
  have := rc_runs (nl := nl) (cl := cl) (ss := sps l) (x := x) (by rw [sps_len]; exact hl)
  rw [foldE_inl (g := cvStep x) (fun _ _ _ => rfl), cv_fold, Nat.zero_add, ← he, sps_len] at this
  exact this

/-! ### The points that are tried -/
def pts (ss : List Sp) : List Int := ss.flatMap fun s => [s.lo, s.hi]
structure Tr where
  (lo hi : Int) (fd : Bool)
def trStep (ss : List Sp) (w : Tr) (x : Int) : Tr := if 2 * cov ss x ≤ ss.length then w else ⟨if w.fd = false ∨ x < w.lo then x else w.lo, if w.fd = false ∨ x > w.hi then x else w.hi, true⟩
def tried (ss : List Sp) : Tr := (pts ss).foldl (trStep ss) ⟨0, 0, false⟩
def trI (ss : List Sp) (seen : List Int) (w : Tr) : Prop :=
  (w.fd = false → ∀ x ∈ seen, 2 * cov ss x ≤ ss.length) ∧ (w.fd = true → (w.lo ∈ seen ∧ 2 * cov ss w.lo > ss.length) ∧ (w.hi ∈ seen ∧ 2 * cov ss w.hi > ss.length) ∧ ∀ x ∈ seen, 2 * cov ss x > ss.length → w.lo ≤ x ∧ x ≤ w.hi)
theorem tr_inv {ss : List Sp} : ∀ (l seen : List Int) (w : Tr), trI ss seen w → trI ss (seen ++ l) (l.foldl (trStep ss) w)
  | [], seen, w, h => by rw [List.append_nil]; exact h
  | x :: l, seen, w, h => by
    rw [List.foldl_cons, show seen ++ x :: l = (seen ++ [x]) ++ l by simp]
    refine tr_inv l (seen ++ [x]) _ ?_
    obtain ⟨h1, h2⟩ := h
    unfold trStep
    by_cases hc : 2 * cov ss x ≤ ss.length
    · rw [if_pos hc]
      refine ⟨fun hf y hy => ?_, fun hf => ?_⟩
      · rcases List.mem_append.1 hy with hy | hy
        · exact h1 hf y hy
        · rw [List.mem_singleton.1 hy]; exact hc
      · obtain ⟨⟨a1, a2⟩, ⟨b1, b2⟩, c⟩ := h2 hf
        refine ⟨⟨List.mem_append_left _ a1, a2⟩, ⟨List.mem_append_left _ b1, b2⟩, fun y hy hp => ?_⟩
        rcases List.mem_append.1 hy with hy | hy
        · exact c y hy hp
        · rw [List.mem_singleton.1 hy] at hp; omega
    · rw [if_neg hc]
      refine ⟨fun hf => Bool.noConfusion hf, fun _ => ?_⟩
      have hx : x ∈ seen ++ [x] := by simp
      cases hf : w.fd
      · have hs := h1 hf
        rw [if_pos (.inl rfl), if_pos (.inl rfl)]
        refine ⟨⟨hx, by dsimp only; omega⟩, ⟨hx, by dsimp only; omega⟩, fun y hy hp => ?_⟩
        rcases List.mem_append.1 hy with hy | hy
        · have := hs y hy; omega
        · rw [List.mem_singleton.1 hy]; exact ⟨Int.le_refl _, Int.le_refl _⟩
      · obtain ⟨⟨a1, a2⟩, ⟨b1, b2⟩, c⟩ := h2 hf
        dsimp only
        simp only [reduceCtorEq, false_or]
        refine ⟨?_, ?_, fun y hy hp => ?_⟩
        · split
          · exact ⟨hx, by omega⟩
          · exact ⟨List.mem_append_left _ a1, a2⟩
        · split
          · exact ⟨hx, by omega⟩
          · exact ⟨List.mem_append_left _ b1, b2⟩
        · rcases List.mem_append.1 hy with hy | hy
          · have := c y hy hp
            constructor <;> split <;> omega
          · rw [List.mem_singleton.1 hy]
            constructor <;> split <;> omega
theorem pts_lo {ss : List Sp} {s : Sp} (h : s ∈ ss) : s.lo ∈ pts ss := List.mem_flatMap.2 ⟨s, h, by simp⟩
theorem pts_hi {ss : List Sp} {s : Sp} (h : s ∈ ss) : s.hi ∈ pts ss := List.mem_flatMap.2 ⟨s, h, by simp⟩
/-- What is tried comes to the same as the sweep. -/
theorem tried_sweep {ss : List Sp} (hb : ss.any badSp = false) : (tried ss).fd = (sweep ss).fd ∧ ((sweep ss).fd = true → (tried ss).lo = (sweep ss).lo ∧ (tried ss).hi = (sweep ss).hi) := by
  have h := tr_inv (ss := ss) (pts ss) [] ⟨0, 0, false⟩ ⟨fun _ x hx => (List.not_mem_nil hx).elim, fun hf => Bool.noConfusion hf⟩
  rw [List.nil_append] at h
  have h' : trI ss (pts ss) (tried ss) := h
  obtain ⟨h1, h2⟩ := h'
  cases hf : (sweep ss).fd
  · refine ⟨?_, fun hh => Bool.noConfusion hh⟩
    cases ht : (tried ss).fd
    · rfl
    · have := (h2 ht).1.2
      have := (sweep_maj (x := (tried ss).lo) hb this).1
      rw [hf] at this; cases this
  · obtain ⟨⟨p1, s1, m1, q1⟩, ⟨p2, s2, m2, q2⟩⟩ := sweep_ends hb hf
    have e1 : (sweep ss).lo ∈ pts ss := by rw [← q1]; exact pts_lo m1
    have e2 : (sweep ss).hi ∈ pts ss := by rw [← q2]; exact pts_hi m2
    have ht : (tried ss).fd = true := by
      cases ht : (tried ss).fd
      · have := h1 ht _ e1; omega
      · rfl
    obtain ⟨⟨a1, a2⟩, ⟨b1, b2⟩, c⟩ := h2 ht
    have c1 := c _ e1 p1
    have c2 := c _ e2 p2
    have d1 := sweep_maj (x := (tried ss).lo) hb a2
    have d2 := sweep_maj (x := (tried ss).hi) hb b2
    exact ⟨ht, fun _ => ⟨by omega, by omega⟩⟩
end
end Go.Proofs.Ytfcedalbamafiaa
